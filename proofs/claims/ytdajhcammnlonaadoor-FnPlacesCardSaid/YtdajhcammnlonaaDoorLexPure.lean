/- Tokens as plain data: whether they are valid, the gap between two of them, their text, how a text is read into tokens. No program is in sight here. -/
import Derived.Test.YtdajhcammnlonaaDoorTabPure
import Derived.Test.YtdajhcammnlonaaDoorData
namespace Go.Proofs.YtdajhcammnlonaaDoor
open Go.RowKit
set_option linter.unusedVariables false

/-- has a text no byte 10? -/
def plainB (s : ByteArray) : Bool := !s.data.toList.contains 10
def tokenOkB (t : PTok) : Bool :=
  if t.text.size = 0 then false
  else if t.kind == 2 then bAt t.text 0 == 35 && plainB t.text
  else if t.kind == 3 then numEnd t.text 0 == t.text.size
  else if t.kind == 4 then strEnd t.text 0 == t.text.size
  else if t.kind == 5 then ereEnd t.text 0 == t.text.size
  else if t.kind == 6 || t.kind == 7 then nameOkB t.text
  else if t.kind == 8 then isBuiltinB t.text
  else t.text.data.toList == (spellOf t.kind).data.toList
/-- may a token stand behind one of a kind and ahead of one of a kind? -/
def stands (before next : Int) (t : PTok) : Bool :=
  tokenOkB t && !(t.kind == 7 && next != 32) && !(t.kind == 2 && next != 1 && next != 0) && !(t.kind == 5 && endsB before) && !((t.kind == 58 || t.kind == 41) && !endsB before)
def tokensGo : Int → List PTok → Bool
  | _, [] => true
  | before, t :: r => stands before (match r with | [] => 0 | u :: _ => u.kind) t && tokensGo t.kind r
def tokensOkB (l : List PTok) : Bool := decide (l.length ≤ 3000) && tokensGo 0 l
def gapB (a b : PTok) : Bool :=
  if a.text.size = 0 ∨ b.text.size = 0 ∨ a.kind = 2 ∨ a.kind = 1 ∨ b.kind = 1 then false
  else if isWordB (bAt a.text (a.text.size - 1)) && isWordB (bAt b.text 0) then true
  else if a.kind == 3 && (isWordB (bAt b.text 0) || bAt b.text 0 == 46) then true
  else if a.kind == 6 && b.kind == 32 then true
  else inB a.kind 30 68 && decide (a.text.size < (opAt (a.text ++ b.text) 0).2)
def spellGo : Option PTok → List PTok → List UInt8
  | _, [] => []
  | none, t :: r => t.text.data.toList ++ spellGo (some t) r
  | some a, t :: r => (if gapB a t = true then [32] else []) ++ (t.text.data.toList ++ spellGo (some t) r)
def spellL (l : List PTok) : ByteArray := bs (spellGo none l)
def noTok : PTok := ⟨0, bs [], 0⟩
def finTok (s : ByteArray) (k : Int) (a : Nat) (e : Int) : PTok := if e < 0 then noTok else ⟨k, s.extract a e.toNat, a⟩
def lineEnd (s : ByteArray) (k : Int) : Int := runEnd (fun b => b != 10) s k
def wordKind (s w : ByteArray) (e : Int) : Int := if keywordOf w != 0 then keywordOf w else if isBuiltinB w then 8 else if bAt s e == 40 then 7 else 6
/-- the token that begins at a place, behind one of a kind; of kind 0 where there is none -/
def tokAt (s : ByteArray) (a : Nat) (before : Int) : PTok :=
  if bAt s a = 10 then ⟨1, s.extract a (a + 1), a⟩
  else if bAt s a = 35 then finTok s 2 a (lineEnd s a)
  else if isDigitB (bAt s a) || bAt s a == 46 then finTok s 3 a (numEnd s a)
  else if bAt s a = 34 then finTok s 4 a (strEnd s a)
  else if bAt s a == 47 && !endsB before then finTok s 5 a (ereEnd s a)
  else if isLetterB (bAt s a) then
    (if nameShape (s.extract a (nameEnd s a).toNat) then ⟨wordKind s (s.extract a (nameEnd s a).toNat) (nameEnd s a), s.extract a (nameEnd s a).toNat, a⟩ else noTok)
  else if (opAt s a).2 = 0 then noTok else finTok s (opAt s a).1 a (a + (opAt s a).2 : Nat)
/-- the tokens from a place on, or where a fault is -/
def lexGo (s : ByteArray) (a : Nat) (before : Int) : Except Nat (List PTok) :=
  if h : a < s.size then
    if isBlankB (bAt s a) = true then lexGo s (a + 1) before
    else if bAt s a = 92 ∧ bAt s (a + 1) = 10 then lexGo s (a + 2) before
    else if h2 : (tokAt s a before).kind = 0 ∨ (tokAt s a before).text.size = 0 then .error a
    else match lexGo s (a + (tokAt s a before).text.size) (tokAt s a before).kind with
      | .error e => .error e
      | .ok r => .ok (tokAt s a before :: r)
  else .ok []
termination_by s.size - a
decreasing_by all_goals omega
end Go.Proofs.YtdajhcammnlonaaDoor
