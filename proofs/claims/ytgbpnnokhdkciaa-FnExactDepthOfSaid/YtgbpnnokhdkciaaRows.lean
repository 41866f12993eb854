/-
  No cell of these rows narrows 'for every input' (looked for: loops, veiled, ifaces, maps, wideKeys, modest, calm, conditions, laid).
  DERIVED. THE GIVEN ROWS OF THIS SEAT. 26 by the template 'for every input the law returns true; each argument reads behind the call as it read before'; 0 by the template 'total and deterministic' (their statements: YtgbpnnokhdkciaaTotals.lean).
  GIVEN WITH THE SEED: the statements are not yours to turn. If you find one false, say at which input.
  Laid BY PROGRAM, IN A SANDBOX (cutbox-rows.mjs): the forced cells as the released guide's own fill.sh prints them over the translation 0e9641c82c4f14f2… (all of the seat's roots in one cut). By AI agents, Wed Nov 11 2026. No macro, syntax, notation, axiom, sorry.
-/
import Derived.Test.YtgbpnnokhdkciaaChecked
import GoSem.Claim
import GoSem.ClaimJoined
import GoSem.ClaimMapViews
import Derived.JoinedTies
import Derived.KernelRfl
namespace Go.Proofs.Ytgbpnnokhdkciaa
/- THE CELL 'sum', in the pinned program and in every row, IS THE sha256 OF THE DUMP (.gsa) THAT YtgbpnnokhdkciaaProg.lean LOADS. Nothing in Lean hashes anything: it is a label: what it is worth is what the hold of that sum in a sandbox is worth. -/
noncomputable def Try.pinned : Pinned := { name := "ytgbpnnokhdkciaa", sum := "0e9641c82c4f14f2889d69f27563f085378948d353b81a9fe2fec11ee6d2bcfd", checked := Try.checked }
namespace Rows
def none {H : Type} : Left H := { results := [], args := [] }

/-- 'laws.FnExactLevelWord': WHATEVER THE INPUT: true; the input reads as it did. -/
def fnExactLevelWordSpec : ChangeSpec := { name := "fnExactLevelWord", fn := fun _ => fun
  | [d] => { results := [.lit (.bool true)], args := [d] }
  | _ => none }
def fnExactLevelWordRow : OpenClaim := { program := "ytgbpnnokhdkciaa", sum := "0e9641c82c4f14f2889d69f27563f085378948d353b81a9fe2fec11ee6d2bcfd", func := "loop.example/g01543/laws.FnExactLevelWord", spec := "fnExactLevelWord", apart := false }
def FnExactLevelWordSaid : Prop := fnExactLevelWordRow.holds Try.pinned (OpenSpec.ofChange fnExactLevelWordSpec)

/-- ITS FALSE NEIGHBOUR: 'it returns false'. Refute it at one input. -/
def fnExactLevelWordWrong : ChangeSpec := { name := "fnExactLevelWord", fn := fun _ => fun
  | [d] => { results := [.lit (.bool false)], args := [d] }
  | _ => none }
def FnExactLevelWordWrongFalsely : Prop := fnExactLevelWordRow.holds Try.pinned (OpenSpec.ofChange fnExactLevelWordWrong)

/-- 'laws.FnExactHex': WHATEVER THE INPUT: true; the input reads as it did. -/
def fnExactHexSpec : ChangeSpec := { name := "fnExactHex", fn := fun _ => fun
  | [d] => { results := [.lit (.bool true)], args := [d] }
  | _ => none }
def fnExactHexRow : OpenClaim := { program := "ytgbpnnokhdkciaa", sum := "0e9641c82c4f14f2889d69f27563f085378948d353b81a9fe2fec11ee6d2bcfd", func := "loop.example/g01543/laws.FnExactHex", spec := "fnExactHex", apart := false }
def FnExactHexSaid : Prop := fnExactHexRow.holds Try.pinned (OpenSpec.ofChange fnExactHexSpec)

/-- ITS FALSE NEIGHBOUR: 'it returns false'. Refute it at one input. -/
def fnExactHexWrong : ChangeSpec := { name := "fnExactHex", fn := fun _ => fun
  | [d] => { results := [.lit (.bool false)], args := [d] }
  | _ => none }
def FnExactHexWrongFalsely : Prop := fnExactHexRow.holds Try.pinned (OpenSpec.ofChange fnExactHexWrong)

/-- 'laws.FnExactPosOk': WHATEVER THE INPUT: true; the input reads as it did. -/
def fnExactPosOkSpec : ChangeSpec := { name := "fnExactPosOk", fn := fun _ => fun
  | [d] => { results := [.lit (.bool true)], args := [d] }
  | _ => none }
def fnExactPosOkRow : OpenClaim := { program := "ytgbpnnokhdkciaa", sum := "0e9641c82c4f14f2889d69f27563f085378948d353b81a9fe2fec11ee6d2bcfd", func := "loop.example/g01543/laws.FnExactPosOk", spec := "fnExactPosOk", apart := false }
def FnExactPosOkSaid : Prop := fnExactPosOkRow.holds Try.pinned (OpenSpec.ofChange fnExactPosOkSpec)

/-- ITS FALSE NEIGHBOUR: 'it returns false'. Refute it at one input. -/
def fnExactPosOkWrong : ChangeSpec := { name := "fnExactPosOk", fn := fun _ => fun
  | [d] => { results := [.lit (.bool false)], args := [d] }
  | _ => none }
def FnExactPosOkWrongFalsely : Prop := fnExactPosOkRow.holds Try.pinned (OpenSpec.ofChange fnExactPosOkWrong)

/-- 'laws.FnExactTop': WHATEVER THE INPUT: true; the input reads as it did. -/
def fnExactTopSpec : ChangeSpec := { name := "fnExactTop", fn := fun _ => fun
  | [] => { results := [.lit (.bool true)], args := [] }
  | _ => none }
def fnExactTopRow : OpenClaim := { program := "ytgbpnnokhdkciaa", sum := "0e9641c82c4f14f2889d69f27563f085378948d353b81a9fe2fec11ee6d2bcfd", func := "loop.example/g01543/laws.FnExactTop", spec := "fnExactTop", apart := false }
def FnExactTopSaid : Prop := fnExactTopRow.holds Try.pinned (OpenSpec.ofChange fnExactTopSpec)

/-- ITS FALSE NEIGHBOUR: 'it returns false'. Refute it at one input. -/
def fnExactTopWrong : ChangeSpec := { name := "fnExactTop", fn := fun _ => fun
  | [] => { results := [.lit (.bool false)], args := [] }
  | _ => none }
def FnExactTopWrongFalsely : Prop := fnExactTopRow.holds Try.pinned (OpenSpec.ofChange fnExactTopWrong)

/-- 'laws.FnExactReadFixed': WHATEVER THE INPUT: true; the input reads as it did. -/
def fnExactReadFixedSpec : ChangeSpec := { name := "fnExactReadFixed", fn := fun _ => fun
  | [d1, d2] => { results := [.lit (.bool true)], args := [d1, d2] }
  | _ => none }
def fnExactReadFixedRow : OpenClaim := { program := "ytgbpnnokhdkciaa", sum := "0e9641c82c4f14f2889d69f27563f085378948d353b81a9fe2fec11ee6d2bcfd", func := "loop.example/g01543/laws.FnExactReadFixed", spec := "fnExactReadFixed", apart := false }
def FnExactReadFixedSaid : Prop := fnExactReadFixedRow.holds Try.pinned (OpenSpec.ofChange fnExactReadFixedSpec)

/-- ITS FALSE NEIGHBOUR: 'it returns false'. Refute it at one input. -/
def fnExactReadFixedWrong : ChangeSpec := { name := "fnExactReadFixed", fn := fun _ => fun
  | [d1, d2] => { results := [.lit (.bool false)], args := [d1, d2] }
  | _ => none }
def FnExactReadFixedWrongFalsely : Prop := fnExactReadFixedRow.holds Try.pinned (OpenSpec.ofChange fnExactReadFixedWrong)

/-- 'laws.FnExactVar': WHATEVER THE INPUT: true; the input reads as it did. -/
def fnExactVarSpec : ChangeSpec := { name := "fnExactVar", fn := fun _ => fun
  | [d] => { results := [.lit (.bool true)], args := [d] }
  | _ => none }
def fnExactVarRow : OpenClaim := { program := "ytgbpnnokhdkciaa", sum := "0e9641c82c4f14f2889d69f27563f085378948d353b81a9fe2fec11ee6d2bcfd", func := "loop.example/g01543/laws.FnExactVar", spec := "fnExactVar", apart := false }
def FnExactVarSaid : Prop := fnExactVarRow.holds Try.pinned (OpenSpec.ofChange fnExactVarSpec)

/-- ITS FALSE NEIGHBOUR: 'it returns false'. Refute it at one input. -/
def fnExactVarWrong : ChangeSpec := { name := "fnExactVar", fn := fun _ => fun
  | [d] => { results := [.lit (.bool false)], args := [d] }
  | _ => none }
def FnExactVarWrongFalsely : Prop := fnExactVarRow.holds Try.pinned (OpenSpec.ofChange fnExactVarWrong)

/-- 'laws.FnExactNameShape': WHATEVER THE INPUT: true; the input reads as it did. -/
def fnExactNameShapeSpec : ChangeSpec := { name := "fnExactNameShape", fn := fun _ => fun
  | [d] => { results := [.lit (.bool true)], args := [d] }
  | _ => none }
def fnExactNameShapeRow : OpenClaim := { program := "ytgbpnnokhdkciaa", sum := "0e9641c82c4f14f2889d69f27563f085378948d353b81a9fe2fec11ee6d2bcfd", func := "loop.example/g01543/laws.FnExactNameShape", spec := "fnExactNameShape", apart := false }
def FnExactNameShapeSaid : Prop := fnExactNameShapeRow.holds Try.pinned (OpenSpec.ofChange fnExactNameShapeSpec)

/-- ITS FALSE NEIGHBOUR: 'it returns false'. Refute it at one input. -/
def fnExactNameShapeWrong : ChangeSpec := { name := "fnExactNameShape", fn := fun _ => fun
  | [d] => { results := [.lit (.bool false)], args := [d] }
  | _ => none }
def FnExactNameShapeWrongFalsely : Prop := fnExactNameShapeRow.holds Try.pinned (OpenSpec.ofChange fnExactNameShapeWrong)

/-- 'laws.FnExactFixed': WHATEVER THE INPUT: true; the input reads as it did. -/
def fnExactFixedSpec : ChangeSpec := { name := "fnExactFixed", fn := fun _ => fun
  | [d1, d2] => { results := [.lit (.bool true)], args := [d1, d2] }
  | _ => none }
def fnExactFixedRow : OpenClaim := { program := "ytgbpnnokhdkciaa", sum := "0e9641c82c4f14f2889d69f27563f085378948d353b81a9fe2fec11ee6d2bcfd", func := "loop.example/g01543/laws.FnExactFixed", spec := "fnExactFixed", apart := false }
def FnExactFixedSaid : Prop := fnExactFixedRow.holds Try.pinned (OpenSpec.ofChange fnExactFixedSpec)

/-- ITS FALSE NEIGHBOUR: 'it returns false'. Refute it at one input. -/
def fnExactFixedWrong : ChangeSpec := { name := "fnExactFixed", fn := fun _ => fun
  | [d1, d2] => { results := [.lit (.bool false)], args := [d1, d2] }
  | _ => none }
def FnExactFixedWrongFalsely : Prop := fnExactFixedRow.holds Try.pinned (OpenSpec.ofChange fnExactFixedWrong)

/-- 'laws.FnExactReadVar': WHATEVER THE INPUT: true; the input reads as it did. -/
def fnExactReadVarSpec : ChangeSpec := { name := "fnExactReadVar", fn := fun _ => fun
  | [d] => { results := [.lit (.bool true)], args := [d] }
  | _ => none }
def fnExactReadVarRow : OpenClaim := { program := "ytgbpnnokhdkciaa", sum := "0e9641c82c4f14f2889d69f27563f085378948d353b81a9fe2fec11ee6d2bcfd", func := "loop.example/g01543/laws.FnExactReadVar", spec := "fnExactReadVar", apart := false }
def FnExactReadVarSaid : Prop := fnExactReadVarRow.holds Try.pinned (OpenSpec.ofChange fnExactReadVarSpec)

/-- ITS FALSE NEIGHBOUR: 'it returns false'. Refute it at one input. -/
def fnExactReadVarWrong : ChangeSpec := { name := "fnExactReadVar", fn := fun _ => fun
  | [d] => { results := [.lit (.bool false)], args := [d] }
  | _ => none }
def FnExactReadVarWrongFalsely : Prop := fnExactReadVarRow.holds Try.pinned (OpenSpec.ofChange fnExactReadVarWrong)

/-- 'laws.FnExactNameEnd': WHATEVER THE INPUT: true; the input reads as it did. -/
def fnExactNameEndSpec : ChangeSpec := { name := "fnExactNameEnd", fn := fun _ => fun
  | [d1, d2] => { results := [.lit (.bool true)], args := [d1, d2] }
  | _ => none }
def fnExactNameEndRow : OpenClaim := { program := "ytgbpnnokhdkciaa", sum := "0e9641c82c4f14f2889d69f27563f085378948d353b81a9fe2fec11ee6d2bcfd", func := "loop.example/g01543/laws.FnExactNameEnd", spec := "fnExactNameEnd", apart := false }
def FnExactNameEndSaid : Prop := fnExactNameEndRow.holds Try.pinned (OpenSpec.ofChange fnExactNameEndSpec)

/-- ITS FALSE NEIGHBOUR: 'it returns false'. Refute it at one input. -/
def fnExactNameEndWrong : ChangeSpec := { name := "fnExactNameEnd", fn := fun _ => fun
  | [d1, d2] => { results := [.lit (.bool false)], args := [d1, d2] }
  | _ => none }
def FnExactNameEndWrongFalsely : Prop := fnExactNameEndRow.holds Try.pinned (OpenSpec.ofChange fnExactNameEndWrong)

/-- 'laws.FnExactOpLevel': WHATEVER THE INPUT: true; the input reads as it did. -/
def fnExactOpLevelSpec : ChangeSpec := { name := "fnExactOpLevel", fn := fun _ => fun
  | [d] => { results := [.lit (.bool true)], args := [d] }
  | _ => none }
def fnExactOpLevelRow : OpenClaim := { program := "ytgbpnnokhdkciaa", sum := "0e9641c82c4f14f2889d69f27563f085378948d353b81a9fe2fec11ee6d2bcfd", func := "loop.example/g01543/laws.FnExactOpLevel", spec := "fnExactOpLevel", apart := false }
def FnExactOpLevelSaid : Prop := fnExactOpLevelRow.holds Try.pinned (OpenSpec.ofChange fnExactOpLevelSpec)

/-- ITS FALSE NEIGHBOUR: 'it returns false'. Refute it at one input. -/
def fnExactOpLevelWrong : ChangeSpec := { name := "fnExactOpLevel", fn := fun _ => fun
  | [d] => { results := [.lit (.bool false)], args := [d] }
  | _ => none }
def FnExactOpLevelWrongFalsely : Prop := fnExactOpLevelRow.holds Try.pinned (OpenSpec.ofChange fnExactOpLevelWrong)

/-- 'laws.FnExactUnhex': WHATEVER THE INPUT: true; the input reads as it did. -/
def fnExactUnhexSpec : ChangeSpec := { name := "fnExactUnhex", fn := fun _ => fun
  | [d] => { results := [.lit (.bool true)], args := [d] }
  | _ => none }
def fnExactUnhexRow : OpenClaim := { program := "ytgbpnnokhdkciaa", sum := "0e9641c82c4f14f2889d69f27563f085378948d353b81a9fe2fec11ee6d2bcfd", func := "loop.example/g01543/laws.FnExactUnhex", spec := "fnExactUnhex", inPlace := ["internal/bytealg.IndexByteString"], apart := false }
def FnExactUnhexSaid : Prop := fnExactUnhexRow.holds Try.pinned (OpenSpec.ofChange fnExactUnhexSpec)

/-- ITS FALSE NEIGHBOUR: 'it returns false'. Refute it at one input. -/
def fnExactUnhexWrong : ChangeSpec := { name := "fnExactUnhex", fn := fun _ => fun
  | [d] => { results := [.lit (.bool false)], args := [d] }
  | _ => none }
def FnExactUnhexWrongFalsely : Prop := fnExactUnhexRow.holds Try.pinned (OpenSpec.ofChange fnExactUnhexWrong)

/-- 'laws.FnExactStrEnd': WHATEVER THE INPUT: true; the input reads as it did. -/
def fnExactStrEndSpec : ChangeSpec := { name := "fnExactStrEnd", fn := fun _ => fun
  | [d1, d2] => { results := [.lit (.bool true)], args := [d1, d2] }
  | _ => none }
def fnExactStrEndRow : OpenClaim := { program := "ytgbpnnokhdkciaa", sum := "0e9641c82c4f14f2889d69f27563f085378948d353b81a9fe2fec11ee6d2bcfd", func := "loop.example/g01543/laws.FnExactStrEnd", spec := "fnExactStrEnd", apart := false }
def FnExactStrEndSaid : Prop := fnExactStrEndRow.holds Try.pinned (OpenSpec.ofChange fnExactStrEndSpec)

/-- ITS FALSE NEIGHBOUR: 'it returns false'. Refute it at one input. -/
def fnExactStrEndWrong : ChangeSpec := { name := "fnExactStrEnd", fn := fun _ => fun
  | [d1, d2] => { results := [.lit (.bool false)], args := [d1, d2] }
  | _ => none }
def FnExactStrEndWrongFalsely : Prop := fnExactStrEndRow.holds Try.pinned (OpenSpec.ofChange fnExactStrEndWrong)

/-- 'laws.FnExactEreEnd': WHATEVER THE INPUT: true; the input reads as it did. -/
def fnExactEreEndSpec : ChangeSpec := { name := "fnExactEreEnd", fn := fun _ => fun
  | [d1, d2] => { results := [.lit (.bool true)], args := [d1, d2] }
  | _ => none }
def fnExactEreEndRow : OpenClaim := { program := "ytgbpnnokhdkciaa", sum := "0e9641c82c4f14f2889d69f27563f085378948d353b81a9fe2fec11ee6d2bcfd", func := "loop.example/g01543/laws.FnExactEreEnd", spec := "fnExactEreEnd", apart := false }
def FnExactEreEndSaid : Prop := fnExactEreEndRow.holds Try.pinned (OpenSpec.ofChange fnExactEreEndSpec)

/-- ITS FALSE NEIGHBOUR: 'it returns false'. Refute it at one input. -/
def fnExactEreEndWrong : ChangeSpec := { name := "fnExactEreEnd", fn := fun _ => fun
  | [d1, d2] => { results := [.lit (.bool false)], args := [d1, d2] }
  | _ => none }
def FnExactEreEndWrongFalsely : Prop := fnExactEreEndRow.holds Try.pinned (OpenSpec.ofChange fnExactEreEndWrong)

/-- 'laws.FnExactParens': WHATEVER THE INPUT: true; the input reads as it did. -/
def fnExactParensSpec : ChangeSpec := { name := "fnExactParens", fn := fun _ => fun
  | [d] => { results := [.lit (.bool true)], args := [d] }
  | _ => none }
def fnExactParensRow : OpenClaim := { program := "ytgbpnnokhdkciaa", sum := "0e9641c82c4f14f2889d69f27563f085378948d353b81a9fe2fec11ee6d2bcfd", func := "loop.example/g01543/laws.FnExactParens", spec := "fnExactParens", apart := false }
def FnExactParensSaid : Prop := fnExactParensRow.holds Try.pinned (OpenSpec.ofChange fnExactParensSpec)

/-- ITS FALSE NEIGHBOUR: 'it returns false'. Refute it at one input. -/
def fnExactParensWrong : ChangeSpec := { name := "fnExactParens", fn := fun _ => fun
  | [d] => { results := [.lit (.bool false)], args := [d] }
  | _ => none }
def FnExactParensWrongFalsely : Prop := fnExactParensRow.holds Try.pinned (OpenSpec.ofChange fnExactParensWrong)

/-- 'laws.FnExactNumEnd': WHATEVER THE INPUT: true; the input reads as it did. -/
def fnExactNumEndSpec : ChangeSpec := { name := "fnExactNumEnd", fn := fun _ => fun
  | [d1, d2] => { results := [.lit (.bool true)], args := [d1, d2] }
  | _ => none }
def fnExactNumEndRow : OpenClaim := { program := "ytgbpnnokhdkciaa", sum := "0e9641c82c4f14f2889d69f27563f085378948d353b81a9fe2fec11ee6d2bcfd", func := "loop.example/g01543/laws.FnExactNumEnd", spec := "fnExactNumEnd", apart := false }
def FnExactNumEndSaid : Prop := fnExactNumEndRow.holds Try.pinned (OpenSpec.ofChange fnExactNumEndSpec)

/-- ITS FALSE NEIGHBOUR: 'it returns false'. Refute it at one input. -/
def fnExactNumEndWrong : ChangeSpec := { name := "fnExactNumEnd", fn := fun _ => fun
  | [d1, d2] => { results := [.lit (.bool false)], args := [d1, d2] }
  | _ => none }
def FnExactNumEndWrongFalsely : Prop := fnExactNumEndRow.holds Try.pinned (OpenSpec.ofChange fnExactNumEndWrong)

/-- 'laws.FnExactSameTokens': WHATEVER THE INPUT: true; the input reads as it did. -/
def fnExactSameTokensSpec : ChangeSpec := { name := "fnExactSameTokens", fn := fun _ => fun
  | [d1, d2] => { results := [.lit (.bool true)], args := [d1, d2] }
  | _ => none }
def fnExactSameTokensRow : OpenClaim := { program := "ytgbpnnokhdkciaa", sum := "0e9641c82c4f14f2889d69f27563f085378948d353b81a9fe2fec11ee6d2bcfd", func := "loop.example/g01543/laws.FnExactSameTokens", spec := "fnExactSameTokens", unfollowed := true, recurses := true, apart := false }
def FnExactSameTokensSaid : Prop := fnExactSameTokensRow.holds Try.pinned (OpenSpec.ofChange fnExactSameTokensSpec)

/-- ITS FALSE NEIGHBOUR: 'it returns false'. Refute it at one input. -/
def fnExactSameTokensWrong : ChangeSpec := { name := "fnExactSameTokens", fn := fun _ => fun
  | [d1, d2] => { results := [.lit (.bool false)], args := [d1, d2] }
  | _ => none }
def FnExactSameTokensWrongFalsely : Prop := fnExactSameTokensRow.holds Try.pinned (OpenSpec.ofChange fnExactSameTokensWrong)

/-- 'laws.FnExactKindCount': WHATEVER THE INPUT: true; the input reads as it did. -/
def fnExactKindCountSpec : ChangeSpec := { name := "fnExactKindCount", fn := fun _ => fun
  | [d1, d2] => { results := [.lit (.bool true)], args := [d1, d2] }
  | _ => none }
def fnExactKindCountRow : OpenClaim := { program := "ytgbpnnokhdkciaa", sum := "0e9641c82c4f14f2889d69f27563f085378948d353b81a9fe2fec11ee6d2bcfd", func := "loop.example/g01543/laws.FnExactKindCount", spec := "fnExactKindCount", apart := false }
def FnExactKindCountSaid : Prop := fnExactKindCountRow.holds Try.pinned (OpenSpec.ofChange fnExactKindCountSpec)

/-- ITS FALSE NEIGHBOUR: 'it returns false'. Refute it at one input. -/
def fnExactKindCountWrong : ChangeSpec := { name := "fnExactKindCount", fn := fun _ => fun
  | [d1, d2] => { results := [.lit (.bool false)], args := [d1, d2] }
  | _ => none }
def FnExactKindCountWrongFalsely : Prop := fnExactKindCountRow.holds Try.pinned (OpenSpec.ofChange fnExactKindCountWrong)

/-- 'laws.FnExactSameTree': WHATEVER THE INPUT: true; the input reads as it did. -/
def fnExactSameTreeSpec : ChangeSpec := { name := "fnExactSameTree", fn := fun _ => fun
  | [d1, d2] => { results := [.lit (.bool true)], args := [d1, d2] }
  | _ => none }
def fnExactSameTreeRow : OpenClaim := { program := "ytgbpnnokhdkciaa", sum := "0e9641c82c4f14f2889d69f27563f085378948d353b81a9fe2fec11ee6d2bcfd", func := "loop.example/g01543/laws.FnExactSameTree", spec := "fnExactSameTree", unfollowed := true, recurses := true, apart := false }
def FnExactSameTreeSaid : Prop := fnExactSameTreeRow.holds Try.pinned (OpenSpec.ofChange fnExactSameTreeSpec)

/-- ITS FALSE NEIGHBOUR: 'it returns false'. Refute it at one input. -/
def fnExactSameTreeWrong : ChangeSpec := { name := "fnExactSameTree", fn := fun _ => fun
  | [d1, d2] => { results := [.lit (.bool false)], args := [d1, d2] }
  | _ => none }
def FnExactSameTreeWrongFalsely : Prop := fnExactSameTreeRow.holds Try.pinned (OpenSpec.ofChange fnExactSameTreeWrong)

/-- 'laws.FnExactLevelOf': WHATEVER THE INPUT: true; the input reads as it did. -/
def fnExactLevelOfSpec : ChangeSpec := { name := "fnExactLevelOf", fn := fun _ => fun
  | [d] => { results := [.lit (.bool true)], args := [d] }
  | _ => none }
def fnExactLevelOfRow : OpenClaim := { program := "ytgbpnnokhdkciaa", sum := "0e9641c82c4f14f2889d69f27563f085378948d353b81a9fe2fec11ee6d2bcfd", func := "loop.example/g01543/laws.FnExactLevelOf", spec := "fnExactLevelOf", apart := false }
def FnExactLevelOfSaid : Prop := fnExactLevelOfRow.holds Try.pinned (OpenSpec.ofChange fnExactLevelOfSpec)

/-- ITS FALSE NEIGHBOUR: 'it returns false'. Refute it at one input. -/
def fnExactLevelOfWrong : ChangeSpec := { name := "fnExactLevelOf", fn := fun _ => fun
  | [d] => { results := [.lit (.bool false)], args := [d] }
  | _ => none }
def FnExactLevelOfWrongFalsely : Prop := fnExactLevelOfRow.holds Try.pinned (OpenSpec.ofChange fnExactLevelOfWrong)

/-- 'laws.FnExactShapeOk': WHATEVER THE INPUT: true; the input reads as it did. -/
def fnExactShapeOkSpec : ChangeSpec := { name := "fnExactShapeOk", fn := fun _ => fun
  | [d] => { results := [.lit (.bool true)], args := [d] }
  | _ => none }
def fnExactShapeOkRow : OpenClaim := { program := "ytgbpnnokhdkciaa", sum := "0e9641c82c4f14f2889d69f27563f085378948d353b81a9fe2fec11ee6d2bcfd", func := "loop.example/g01543/laws.FnExactShapeOk", spec := "fnExactShapeOk", unfollowed := true, recurses := true, apart := false }
def FnExactShapeOkSaid : Prop := fnExactShapeOkRow.holds Try.pinned (OpenSpec.ofChange fnExactShapeOkSpec)

/-- ITS FALSE NEIGHBOUR: 'it returns false'. Refute it at one input. -/
def fnExactShapeOkWrong : ChangeSpec := { name := "fnExactShapeOk", fn := fun _ => fun
  | [d] => { results := [.lit (.bool false)], args := [d] }
  | _ => none }
def FnExactShapeOkWrongFalsely : Prop := fnExactShapeOkRow.holds Try.pinned (OpenSpec.ofChange fnExactShapeOkWrong)

/-- 'laws.FnExactStartOf': WHATEVER THE INPUT: true; the input reads as it did. -/
def fnExactStartOfSpec : ChangeSpec := { name := "fnExactStartOf", fn := fun _ => fun
  | [d1, d2] => { results := [.lit (.bool true)], args := [d1, d2] }
  | _ => none }
def fnExactStartOfRow : OpenClaim := { program := "ytgbpnnokhdkciaa", sum := "0e9641c82c4f14f2889d69f27563f085378948d353b81a9fe2fec11ee6d2bcfd", func := "loop.example/g01543/laws.FnExactStartOf", spec := "fnExactStartOf", unfollowed := true, recurses := true, apart := false }
def FnExactStartOfSaid : Prop := fnExactStartOfRow.holds Try.pinned (OpenSpec.ofChange fnExactStartOfSpec)

/-- ITS FALSE NEIGHBOUR: 'it returns false'. Refute it at one input. -/
def fnExactStartOfWrong : ChangeSpec := { name := "fnExactStartOf", fn := fun _ => fun
  | [d1, d2] => { results := [.lit (.bool false)], args := [d1, d2] }
  | _ => none }
def FnExactStartOfWrongFalsely : Prop := fnExactStartOfRow.holds Try.pinned (OpenSpec.ofChange fnExactStartOfWrong)

/-- 'laws.FnExactDepthOf': WHATEVER THE INPUT: true; the input reads as it did. -/
def fnExactDepthOfSpec : ChangeSpec := { name := "fnExactDepthOf", fn := fun _ => fun
  | [d] => { results := [.lit (.bool true)], args := [d] }
  | _ => none }
def fnExactDepthOfRow : OpenClaim := { program := "ytgbpnnokhdkciaa", sum := "0e9641c82c4f14f2889d69f27563f085378948d353b81a9fe2fec11ee6d2bcfd", func := "loop.example/g01543/laws.FnExactDepthOf", spec := "fnExactDepthOf", unfollowed := true, recurses := true, apart := false }
def FnExactDepthOfSaid : Prop := fnExactDepthOfRow.holds Try.pinned (OpenSpec.ofChange fnExactDepthOfSpec)

/-- ITS FALSE NEIGHBOUR: 'it returns false'. Refute it at one input. -/
def fnExactDepthOfWrong : ChangeSpec := { name := "fnExactDepthOf", fn := fun _ => fun
  | [d] => { results := [.lit (.bool false)], args := [d] }
  | _ => none }
def FnExactDepthOfWrongFalsely : Prop := fnExactDepthOfRow.holds Try.pinned (OpenSpec.ofChange fnExactDepthOfWrong)

/-- 'laws.FnExactParentOf': WHATEVER THE INPUT: true; the input reads as it did. -/
def fnExactParentOfSpec : ChangeSpec := { name := "fnExactParentOf", fn := fun _ => fun
  | [d1, d2] => { results := [.lit (.bool true)], args := [d1, d2] }
  | _ => none }
def fnExactParentOfRow : OpenClaim := { program := "ytgbpnnokhdkciaa", sum := "0e9641c82c4f14f2889d69f27563f085378948d353b81a9fe2fec11ee6d2bcfd", func := "loop.example/g01543/laws.FnExactParentOf", spec := "fnExactParentOf", unfollowed := true, recurses := true, apart := false }
def FnExactParentOfSaid : Prop := fnExactParentOfRow.holds Try.pinned (OpenSpec.ofChange fnExactParentOfSpec)

/-- ITS FALSE NEIGHBOUR: 'it returns false'. Refute it at one input. -/
def fnExactParentOfWrong : ChangeSpec := { name := "fnExactParentOf", fn := fun _ => fun
  | [d1, d2] => { results := [.lit (.bool false)], args := [d1, d2] }
  | _ => none }
def FnExactParentOfWrongFalsely : Prop := fnExactParentOfRow.holds Try.pinned (OpenSpec.ofChange fnExactParentOfWrong)

/-- 'laws.FnExactFits': WHATEVER THE INPUT: true; the input reads as it did. -/
def fnExactFitsSpec : ChangeSpec := { name := "fnExactFits", fn := fun _ => fun
  | [d1, d2] => { results := [.lit (.bool true)], args := [d1, d2] }
  | _ => none }
def fnExactFitsRow : OpenClaim := { program := "ytgbpnnokhdkciaa", sum := "0e9641c82c4f14f2889d69f27563f085378948d353b81a9fe2fec11ee6d2bcfd", func := "loop.example/g01543/laws.FnExactFits", spec := "fnExactFits", apart := false }
def FnExactFitsSaid : Prop := fnExactFitsRow.holds Try.pinned (OpenSpec.ofChange fnExactFitsSpec)

/-- ITS FALSE NEIGHBOUR: 'it returns false'. Refute it at one input. -/
def fnExactFitsWrong : ChangeSpec := { name := "fnExactFits", fn := fun _ => fun
  | [d1, d2] => { results := [.lit (.bool false)], args := [d1, d2] }
  | _ => none }
def FnExactFitsWrongFalsely : Prop := fnExactFitsRow.holds Try.pinned (OpenSpec.ofChange fnExactFitsWrong)

/-- 'laws.FnExactKidPos': WHATEVER THE INPUT: true; the input reads as it did. -/
def fnExactKidPosSpec : ChangeSpec := { name := "fnExactKidPos", fn := fun _ => fun
  | [d1, d2, d3] => { results := [.lit (.bool true)], args := [d1, d2, d3] }
  | _ => none }
def fnExactKidPosRow : OpenClaim := { program := "ytgbpnnokhdkciaa", sum := "0e9641c82c4f14f2889d69f27563f085378948d353b81a9fe2fec11ee6d2bcfd", func := "loop.example/g01543/laws.FnExactKidPos", spec := "fnExactKidPos", apart := false }
def FnExactKidPosSaid : Prop := fnExactKidPosRow.holds Try.pinned (OpenSpec.ofChange fnExactKidPosSpec)

/-- ITS FALSE NEIGHBOUR: 'it returns false'. Refute it at one input. -/
def fnExactKidPosWrong : ChangeSpec := { name := "fnExactKidPos", fn := fun _ => fun
  | [d1, d2, d3] => { results := [.lit (.bool false)], args := [d1, d2, d3] }
  | _ => none }
def FnExactKidPosWrongFalsely : Prop := fnExactKidPosRow.holds Try.pinned (OpenSpec.ofChange fnExactKidPosWrong)

/- THE SECOND FORM. 'bulk': how many values and letters a reading holds, each counted each time it is reached (what is shared counts as often as it is met; a slice's spare places count too). A statement '..UptoSaid' is the law's where the arguments, and the package variables that the reading takes, are together of bulk at most 1048576: NARROWER than '..Said'. Prove '..Said' where nothing that the law and all that it calls make is longer than what came in: it says more and counts as full. Else prove '..UptoSaid'. A law counts once. -/
mutual
def uptoBulk {H : Type} : DataW H → Nat
  | .lit (.string bytes) => bytes.length + 1
  | .lit _ => 1
  | .nil => 1
  | .ptr d => uptoBulk d + 1
  | .slice elems spare => uptoBulkAll elems + uptoBulkAll spare + 1
  | .agg parts => uptoBulkAll parts + 1
  | .iface _ d => uptoBulk d + 1
  | .map entries => uptoBulkEntries entries + 1
  | .held _ => 1
def uptoBulkAll {H : Type} : List (DataW H) → Nat
  | [] => 0
  | d :: r => uptoBulk d + uptoBulkAll r
def uptoBulkEntries {H : Type} : List (Lit × DataW H) → Nat
  | [] => 0
  | x :: r => uptoBulkEntry x + uptoBulkEntries r
def uptoBulkEntry {H : Type} : Lit × DataW H → Nat
  | (.string bytes, d) => bytes.length + uptoBulk d + 1
  | (_, d) => uptoBulk d + 1
 end
def uptoSmall : (H : Type) → List (DataW H) → Bool := fun _ ds => decide (uptoBulkAll ds ≤ 1048576)
def OpenSpec.upto (s : _root_.Go.ChangeSpec) : _root_.Go.OpenSpec := { _root_.Go.OpenSpec.ofChange s with cond := some uptoSmall }

/-- 'laws.FnExactLevelWord', WHERE WHAT IT READS IS OF BULK AT MOST 1048576: true; the input reads as it did. -/
def fnExactLevelWordUptoRow : OpenClaim := { program := "ytgbpnnokhdkciaa", sum := "0e9641c82c4f14f2889d69f27563f085378948d353b81a9fe2fec11ee6d2bcfd", func := "loop.example/g01543/laws.FnExactLevelWord", spec := "fnExactLevelWord", apart := false, narrowed := true }
def FnExactLevelWordUptoSaid : Prop := fnExactLevelWordUptoRow.holds Try.pinned (OpenSpec.upto fnExactLevelWordSpec)

/-- 'laws.FnExactHex', WHERE WHAT IT READS IS OF BULK AT MOST 1048576: true; the input reads as it did. -/
def fnExactHexUptoRow : OpenClaim := { program := "ytgbpnnokhdkciaa", sum := "0e9641c82c4f14f2889d69f27563f085378948d353b81a9fe2fec11ee6d2bcfd", func := "loop.example/g01543/laws.FnExactHex", spec := "fnExactHex", apart := false, narrowed := true }
def FnExactHexUptoSaid : Prop := fnExactHexUptoRow.holds Try.pinned (OpenSpec.upto fnExactHexSpec)

/-- 'laws.FnExactPosOk', WHERE WHAT IT READS IS OF BULK AT MOST 1048576: true; the input reads as it did. -/
def fnExactPosOkUptoRow : OpenClaim := { program := "ytgbpnnokhdkciaa", sum := "0e9641c82c4f14f2889d69f27563f085378948d353b81a9fe2fec11ee6d2bcfd", func := "loop.example/g01543/laws.FnExactPosOk", spec := "fnExactPosOk", apart := false, narrowed := true }
def FnExactPosOkUptoSaid : Prop := fnExactPosOkUptoRow.holds Try.pinned (OpenSpec.upto fnExactPosOkSpec)

/-- 'laws.FnExactTop', WHERE WHAT IT READS IS OF BULK AT MOST 1048576: true; the input reads as it did. -/
def fnExactTopUptoRow : OpenClaim := { program := "ytgbpnnokhdkciaa", sum := "0e9641c82c4f14f2889d69f27563f085378948d353b81a9fe2fec11ee6d2bcfd", func := "loop.example/g01543/laws.FnExactTop", spec := "fnExactTop", apart := false, narrowed := true }
def FnExactTopUptoSaid : Prop := fnExactTopUptoRow.holds Try.pinned (OpenSpec.upto fnExactTopSpec)

/-- 'laws.FnExactReadFixed', WHERE WHAT IT READS IS OF BULK AT MOST 1048576: true; the input reads as it did. -/
def fnExactReadFixedUptoRow : OpenClaim := { program := "ytgbpnnokhdkciaa", sum := "0e9641c82c4f14f2889d69f27563f085378948d353b81a9fe2fec11ee6d2bcfd", func := "loop.example/g01543/laws.FnExactReadFixed", spec := "fnExactReadFixed", apart := false, narrowed := true }
def FnExactReadFixedUptoSaid : Prop := fnExactReadFixedUptoRow.holds Try.pinned (OpenSpec.upto fnExactReadFixedSpec)

/-- 'laws.FnExactVar', WHERE WHAT IT READS IS OF BULK AT MOST 1048576: true; the input reads as it did. -/
def fnExactVarUptoRow : OpenClaim := { program := "ytgbpnnokhdkciaa", sum := "0e9641c82c4f14f2889d69f27563f085378948d353b81a9fe2fec11ee6d2bcfd", func := "loop.example/g01543/laws.FnExactVar", spec := "fnExactVar", apart := false, narrowed := true }
def FnExactVarUptoSaid : Prop := fnExactVarUptoRow.holds Try.pinned (OpenSpec.upto fnExactVarSpec)

/-- 'laws.FnExactNameShape', WHERE WHAT IT READS IS OF BULK AT MOST 1048576: true; the input reads as it did. -/
def fnExactNameShapeUptoRow : OpenClaim := { program := "ytgbpnnokhdkciaa", sum := "0e9641c82c4f14f2889d69f27563f085378948d353b81a9fe2fec11ee6d2bcfd", func := "loop.example/g01543/laws.FnExactNameShape", spec := "fnExactNameShape", apart := false, narrowed := true }
def FnExactNameShapeUptoSaid : Prop := fnExactNameShapeUptoRow.holds Try.pinned (OpenSpec.upto fnExactNameShapeSpec)

/-- 'laws.FnExactFixed', WHERE WHAT IT READS IS OF BULK AT MOST 1048576: true; the input reads as it did. -/
def fnExactFixedUptoRow : OpenClaim := { program := "ytgbpnnokhdkciaa", sum := "0e9641c82c4f14f2889d69f27563f085378948d353b81a9fe2fec11ee6d2bcfd", func := "loop.example/g01543/laws.FnExactFixed", spec := "fnExactFixed", apart := false, narrowed := true }
def FnExactFixedUptoSaid : Prop := fnExactFixedUptoRow.holds Try.pinned (OpenSpec.upto fnExactFixedSpec)

/-- 'laws.FnExactReadVar', WHERE WHAT IT READS IS OF BULK AT MOST 1048576: true; the input reads as it did. -/
def fnExactReadVarUptoRow : OpenClaim := { program := "ytgbpnnokhdkciaa", sum := "0e9641c82c4f14f2889d69f27563f085378948d353b81a9fe2fec11ee6d2bcfd", func := "loop.example/g01543/laws.FnExactReadVar", spec := "fnExactReadVar", apart := false, narrowed := true }
def FnExactReadVarUptoSaid : Prop := fnExactReadVarUptoRow.holds Try.pinned (OpenSpec.upto fnExactReadVarSpec)

/-- 'laws.FnExactNameEnd', WHERE WHAT IT READS IS OF BULK AT MOST 1048576: true; the input reads as it did. -/
def fnExactNameEndUptoRow : OpenClaim := { program := "ytgbpnnokhdkciaa", sum := "0e9641c82c4f14f2889d69f27563f085378948d353b81a9fe2fec11ee6d2bcfd", func := "loop.example/g01543/laws.FnExactNameEnd", spec := "fnExactNameEnd", apart := false, narrowed := true }
def FnExactNameEndUptoSaid : Prop := fnExactNameEndUptoRow.holds Try.pinned (OpenSpec.upto fnExactNameEndSpec)

/-- 'laws.FnExactOpLevel', WHERE WHAT IT READS IS OF BULK AT MOST 1048576: true; the input reads as it did. -/
def fnExactOpLevelUptoRow : OpenClaim := { program := "ytgbpnnokhdkciaa", sum := "0e9641c82c4f14f2889d69f27563f085378948d353b81a9fe2fec11ee6d2bcfd", func := "loop.example/g01543/laws.FnExactOpLevel", spec := "fnExactOpLevel", apart := false, narrowed := true }
def FnExactOpLevelUptoSaid : Prop := fnExactOpLevelUptoRow.holds Try.pinned (OpenSpec.upto fnExactOpLevelSpec)

/-- 'laws.FnExactUnhex', WHERE WHAT IT READS IS OF BULK AT MOST 1048576: true; the input reads as it did. -/
def fnExactUnhexUptoRow : OpenClaim := { program := "ytgbpnnokhdkciaa", sum := "0e9641c82c4f14f2889d69f27563f085378948d353b81a9fe2fec11ee6d2bcfd", func := "loop.example/g01543/laws.FnExactUnhex", spec := "fnExactUnhex", inPlace := ["internal/bytealg.IndexByteString"], apart := false, narrowed := true }
def FnExactUnhexUptoSaid : Prop := fnExactUnhexUptoRow.holds Try.pinned (OpenSpec.upto fnExactUnhexSpec)

/-- 'laws.FnExactStrEnd', WHERE WHAT IT READS IS OF BULK AT MOST 1048576: true; the input reads as it did. -/
def fnExactStrEndUptoRow : OpenClaim := { program := "ytgbpnnokhdkciaa", sum := "0e9641c82c4f14f2889d69f27563f085378948d353b81a9fe2fec11ee6d2bcfd", func := "loop.example/g01543/laws.FnExactStrEnd", spec := "fnExactStrEnd", apart := false, narrowed := true }
def FnExactStrEndUptoSaid : Prop := fnExactStrEndUptoRow.holds Try.pinned (OpenSpec.upto fnExactStrEndSpec)

/-- 'laws.FnExactEreEnd', WHERE WHAT IT READS IS OF BULK AT MOST 1048576: true; the input reads as it did. -/
def fnExactEreEndUptoRow : OpenClaim := { program := "ytgbpnnokhdkciaa", sum := "0e9641c82c4f14f2889d69f27563f085378948d353b81a9fe2fec11ee6d2bcfd", func := "loop.example/g01543/laws.FnExactEreEnd", spec := "fnExactEreEnd", apart := false, narrowed := true }
def FnExactEreEndUptoSaid : Prop := fnExactEreEndUptoRow.holds Try.pinned (OpenSpec.upto fnExactEreEndSpec)

/-- 'laws.FnExactParens', WHERE WHAT IT READS IS OF BULK AT MOST 1048576: true; the input reads as it did. -/
def fnExactParensUptoRow : OpenClaim := { program := "ytgbpnnokhdkciaa", sum := "0e9641c82c4f14f2889d69f27563f085378948d353b81a9fe2fec11ee6d2bcfd", func := "loop.example/g01543/laws.FnExactParens", spec := "fnExactParens", apart := false, narrowed := true }
def FnExactParensUptoSaid : Prop := fnExactParensUptoRow.holds Try.pinned (OpenSpec.upto fnExactParensSpec)

/-- 'laws.FnExactNumEnd', WHERE WHAT IT READS IS OF BULK AT MOST 1048576: true; the input reads as it did. -/
def fnExactNumEndUptoRow : OpenClaim := { program := "ytgbpnnokhdkciaa", sum := "0e9641c82c4f14f2889d69f27563f085378948d353b81a9fe2fec11ee6d2bcfd", func := "loop.example/g01543/laws.FnExactNumEnd", spec := "fnExactNumEnd", apart := false, narrowed := true }
def FnExactNumEndUptoSaid : Prop := fnExactNumEndUptoRow.holds Try.pinned (OpenSpec.upto fnExactNumEndSpec)

/-- 'laws.FnExactSameTokens', WHERE WHAT IT READS IS OF BULK AT MOST 1048576: true; the input reads as it did. -/
def fnExactSameTokensUptoRow : OpenClaim := { program := "ytgbpnnokhdkciaa", sum := "0e9641c82c4f14f2889d69f27563f085378948d353b81a9fe2fec11ee6d2bcfd", func := "loop.example/g01543/laws.FnExactSameTokens", spec := "fnExactSameTokens", unfollowed := true, recurses := true, apart := false, narrowed := true }
def FnExactSameTokensUptoSaid : Prop := fnExactSameTokensUptoRow.holds Try.pinned (OpenSpec.upto fnExactSameTokensSpec)

/-- 'laws.FnExactKindCount', WHERE WHAT IT READS IS OF BULK AT MOST 1048576: true; the input reads as it did. -/
def fnExactKindCountUptoRow : OpenClaim := { program := "ytgbpnnokhdkciaa", sum := "0e9641c82c4f14f2889d69f27563f085378948d353b81a9fe2fec11ee6d2bcfd", func := "loop.example/g01543/laws.FnExactKindCount", spec := "fnExactKindCount", apart := false, narrowed := true }
def FnExactKindCountUptoSaid : Prop := fnExactKindCountUptoRow.holds Try.pinned (OpenSpec.upto fnExactKindCountSpec)

/-- 'laws.FnExactSameTree', WHERE WHAT IT READS IS OF BULK AT MOST 1048576: true; the input reads as it did. -/
def fnExactSameTreeUptoRow : OpenClaim := { program := "ytgbpnnokhdkciaa", sum := "0e9641c82c4f14f2889d69f27563f085378948d353b81a9fe2fec11ee6d2bcfd", func := "loop.example/g01543/laws.FnExactSameTree", spec := "fnExactSameTree", unfollowed := true, recurses := true, apart := false, narrowed := true }
def FnExactSameTreeUptoSaid : Prop := fnExactSameTreeUptoRow.holds Try.pinned (OpenSpec.upto fnExactSameTreeSpec)

/-- 'laws.FnExactLevelOf', WHERE WHAT IT READS IS OF BULK AT MOST 1048576: true; the input reads as it did. -/
def fnExactLevelOfUptoRow : OpenClaim := { program := "ytgbpnnokhdkciaa", sum := "0e9641c82c4f14f2889d69f27563f085378948d353b81a9fe2fec11ee6d2bcfd", func := "loop.example/g01543/laws.FnExactLevelOf", spec := "fnExactLevelOf", apart := false, narrowed := true }
def FnExactLevelOfUptoSaid : Prop := fnExactLevelOfUptoRow.holds Try.pinned (OpenSpec.upto fnExactLevelOfSpec)

/-- 'laws.FnExactShapeOk', WHERE WHAT IT READS IS OF BULK AT MOST 1048576: true; the input reads as it did. -/
def fnExactShapeOkUptoRow : OpenClaim := { program := "ytgbpnnokhdkciaa", sum := "0e9641c82c4f14f2889d69f27563f085378948d353b81a9fe2fec11ee6d2bcfd", func := "loop.example/g01543/laws.FnExactShapeOk", spec := "fnExactShapeOk", unfollowed := true, recurses := true, apart := false, narrowed := true }
def FnExactShapeOkUptoSaid : Prop := fnExactShapeOkUptoRow.holds Try.pinned (OpenSpec.upto fnExactShapeOkSpec)

/-- 'laws.FnExactStartOf', WHERE WHAT IT READS IS OF BULK AT MOST 1048576: true; the input reads as it did. -/
def fnExactStartOfUptoRow : OpenClaim := { program := "ytgbpnnokhdkciaa", sum := "0e9641c82c4f14f2889d69f27563f085378948d353b81a9fe2fec11ee6d2bcfd", func := "loop.example/g01543/laws.FnExactStartOf", spec := "fnExactStartOf", unfollowed := true, recurses := true, apart := false, narrowed := true }
def FnExactStartOfUptoSaid : Prop := fnExactStartOfUptoRow.holds Try.pinned (OpenSpec.upto fnExactStartOfSpec)

/-- 'laws.FnExactDepthOf', WHERE WHAT IT READS IS OF BULK AT MOST 1048576: true; the input reads as it did. -/
def fnExactDepthOfUptoRow : OpenClaim := { program := "ytgbpnnokhdkciaa", sum := "0e9641c82c4f14f2889d69f27563f085378948d353b81a9fe2fec11ee6d2bcfd", func := "loop.example/g01543/laws.FnExactDepthOf", spec := "fnExactDepthOf", unfollowed := true, recurses := true, apart := false, narrowed := true }
def FnExactDepthOfUptoSaid : Prop := fnExactDepthOfUptoRow.holds Try.pinned (OpenSpec.upto fnExactDepthOfSpec)

/-- 'laws.FnExactParentOf', WHERE WHAT IT READS IS OF BULK AT MOST 1048576: true; the input reads as it did. -/
def fnExactParentOfUptoRow : OpenClaim := { program := "ytgbpnnokhdkciaa", sum := "0e9641c82c4f14f2889d69f27563f085378948d353b81a9fe2fec11ee6d2bcfd", func := "loop.example/g01543/laws.FnExactParentOf", spec := "fnExactParentOf", unfollowed := true, recurses := true, apart := false, narrowed := true }
def FnExactParentOfUptoSaid : Prop := fnExactParentOfUptoRow.holds Try.pinned (OpenSpec.upto fnExactParentOfSpec)

/-- 'laws.FnExactFits', WHERE WHAT IT READS IS OF BULK AT MOST 1048576: true; the input reads as it did. -/
def fnExactFitsUptoRow : OpenClaim := { program := "ytgbpnnokhdkciaa", sum := "0e9641c82c4f14f2889d69f27563f085378948d353b81a9fe2fec11ee6d2bcfd", func := "loop.example/g01543/laws.FnExactFits", spec := "fnExactFits", apart := false, narrowed := true }
def FnExactFitsUptoSaid : Prop := fnExactFitsUptoRow.holds Try.pinned (OpenSpec.upto fnExactFitsSpec)

/-- 'laws.FnExactKidPos', WHERE WHAT IT READS IS OF BULK AT MOST 1048576: true; the input reads as it did. -/
def fnExactKidPosUptoRow : OpenClaim := { program := "ytgbpnnokhdkciaa", sum := "0e9641c82c4f14f2889d69f27563f085378948d353b81a9fe2fec11ee6d2bcfd", func := "loop.example/g01543/laws.FnExactKidPos", spec := "fnExactKidPos", apart := false, narrowed := true }
def FnExactKidPosUptoSaid : Prop := fnExactKidPosUptoRow.holds Try.pinned (OpenSpec.upto fnExactKidPosSpec)

end Rows
end Go.Proofs.Ytgbpnnokhdkciaa
