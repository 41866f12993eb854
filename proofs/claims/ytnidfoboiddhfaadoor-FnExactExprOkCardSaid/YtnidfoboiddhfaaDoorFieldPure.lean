/- Whether the fields and the kids of a node are valid, as plain data. No program is in sight here. -/
import Derived.Test.YtnidfoboiddhfaaDoorLexPure
import Derived.Test.YtnidfoboiddhfaaDoorTabPure
import Derived.Test.YtnidfoboiddhfaaDoorDepthPure
namespace Go.Proofs.YtnidfoboiddhfaaDoor
open Go.RowKit
set_option linter.unusedVariables false

def stepB (o : Int) : Bool := o == 51 || o == 52
def opOkB (k o : Int) : Bool :=
  if k = 9 ∨ k = 10 then stepB o
  else if k = 11 then o == 55 || o == 56 || o == 61
  else if k = 12 then opLevel o != 0
  else if k = 15 then isAssignB o
  else if k = 21 then inB o 0 1
  else if k = 42 then inB o 1 3
  else if k = 43 then o == 1 || o == 3
  else o == 0
def emptyB (t : ByteArray) : Bool := t.toList.isEmpty
/-- which texts the print's target may be -/
def tgtL : List (List UInt8) := [[], [62], [62, 62], [124]]
def tgtB (u : ByteArray) : Bool := u.toList.isEmpty || u.toList == [62] || u.toList == [62, 62] || u.toList == [124]
theorem tgt_find (u : ByteArray) : decide (0 ≤ findIx tgtL u) = tgtB u := by
  unfold tgtB findIx
  rw [show u.toList.isEmpty = (u.toList == []) by cases u.toList <;> rfl]
  rw [ByteArray.toList_eq]
  generalize u.data.toList = x
  simp only [tgtL, findFrom]
  by_cases h1 : x = []
  · subst h1; rfl
  by_cases h2 : x = [62]
  · subst h2; rfl
  by_cases h3 : x = [62, 62]
  · subst h3; rfl
  by_cases h4 : x = [124]
  · subst h4; rfl
  rw [if_neg (Ne.symm h1), if_neg (Ne.symm h2), if_neg (Ne.symm h3), if_neg (Ne.symm h4)]
  have e : ∀ y : List UInt8, ¬ x = y → (x == y) = false := fun y h => by simpa using h
  rw [e _ h1, e _ h2, e _ h3, e _ h4]
  rfl
def textOkB (k : Int) (t u : ByteArray) : Bool :=
  if k = 1 ∨ k = 5 ∨ k = 7 ∨ k = 13 ∨ k = 27 ∨ k = 44 then nameOkB t && emptyB u
  else if k = 2 then tokenOkB ⟨3, t, 0⟩ && emptyB u
  else if k = 3 then tokenOkB ⟨4, t, 0⟩ && emptyB u
  else if k = 4 then tokenOkB ⟨5, t, 0⟩ && emptyB u
  else if k = 34 then tokenOkB ⟨2, t, 0⟩ && emptyB u
  else if k = 8 then isBuiltinB t && emptyB u
  else if k = 32 then nameOkB t && nameOkB u
  else if k = 21 then emptyB t && tgtB u
  else emptyB t && emptyB u
def manyLo (k o : Int) (u : ByteArray) : Int :=
  if k = 5 ∨ k = 13 then 1
  else if k = 7 ∨ k = 8 ∨ k = 27 then 0
  else if k = 6 ∨ k = 9 ∨ k = 10 ∨ k = 11 ∨ k = 20 ∨ k = 32 ∨ k = 40 ∨ k = 41 then 1
  else if k = 12 ∨ k = 15 ∨ k = 29 ∨ k = 30 then 2
  else if k = 14 then 3
  else if k = 21 then (if emptyB u then o else o + 1)
  else if k = 23 ∨ k = 24 then 0
  else if k = 28 then 2
  else if k = 31 then 4
  else if k = 33 ∨ k = 45 then 0
  else if k = 42 then 1 + Int.tdiv o 3
  else if k = 43 then 2 + Int.tdiv o 3
  else if k = 44 then 1
  else 0
def manyHi (k o : Int) (u : ByteArray) (m : Int) : Int :=
  if k = 5 ∨ k = 13 then 6
  else if k = 7 ∨ k = 8 ∨ k = 27 then 6
  else if k = 6 ∨ k = 9 ∨ k = 10 ∨ k = 11 ∨ k = 20 ∨ k = 32 ∨ k = 40 ∨ k = 41 then 1
  else if k = 12 ∨ k = 15 ∨ k = 29 ∨ k = 30 then 2
  else if k = 14 then 3
  else if k = 21 then (if emptyB u then 6 else 7)
  else if k = 23 ∨ k = 24 then 1
  else if k = 28 then 3
  else if k = 31 then 4
  else if k = 33 ∨ k = 45 then m
  else if k = 42 then 1 + Int.tdiv o 3
  else if k = 43 then 2 + Int.tdiv o 3
  else if k = 44 then 7
  else 0
def knownB (k : Int) : Bool := inB k 1 16 || inB k 20 34 || inB k 40 45
def fieldsB (k o : Int) (t u : ByteArray) (m : Int) : Bool := knownB k && opOkB k o && textOkB k t u && inB m (manyLo k o u) (manyHi k o u m)
/-- may the c-th of m kids of a node be of a kind? -/
def kidB (k o m : Int) (c x : Int) : Bool :=
  if k = 9 ∨ k = 10 then isLvalueB x
  else if k = 15 then isExprB x && (decide (0 < c) || isLvalueB x)
  else if k = 28 then (c == 0 && isExprB x) || (decide (0 < c) && x == 33)
  else if k = 29 then (c == 0 && isExprB x) || (c == 1 && x == 33)
  else if k = 30 then (c == 0 && x == 33) || (c == 1 && isExprB x)
  else if k = 31 then (decide (c < 3) && (isExprB x || x == 16)) || (c == 3 && x == 33)
  else if k = 32 ∨ k = 40 ∨ k = 41 then x == 33
  else if k = 33 then isStmtB x
  else if k = 42 then (o == 1 && isExprB x) || (o == 2 && x == 33) || (o == 3 && ((c == m - 1 && x == 33) || (!(c == m - 1) && isExprB x)))
  else if k = 43 then (decide (c < 2) && isExprB x) || (c == 2 && x == 33)
  else if k = 44 then (c == m - 1 && x == 33) || (!(c == m - 1) && x == 1)
  else if k = 45 then inB x 40 44 || x == 34
  else isExprB x
def kindAt (l : List PNode) (i : Int) : Int := match l[i.toNat]? with
  | some nd => nd.kind
  | none => 0
def kidsFrom (l : List PNode) (k o m : Int) : List Int → Int → Bool
  | [], _ => true
  | x :: r, c => kidB k o m c (kindAt l x) && kidsFrom l k o m r (c + 1)
def nodeOkB (l : List PNode) (nd : PNode) : Bool := fieldsB nd.kind nd.op nd.text nd.other nd.kids.length && kidsFrom l nd.kind nd.op nd.kids.length nd.kids 0
def treeB (l : List PNode) : Bool := shapeB l && decide (depthL l ≤ 40) && l.all (nodeOkB l)
def lastKind (l : List PNode) : Int := kindAt l ((l.length : Int) - 1)
def exprTreeB (l : List PNode) : Bool := treeB l && isExprB (lastKind l)
def progTreeB (l : List PNode) : Bool := treeB l && lastKind l == 45

theorem kidsFrom_step {l : List PNode} {k o m : Int} {ks : List Int} {c : Nat} {x : Int} (h : ks[c]? = some x) : kidsFrom l k o m (ks.drop c) c = (kidB k o m c (kindAt l x) && kidsFrom l k o m (ks.drop (c + 1)) ((c + 1 : Nat) : Int)) := by
  have hi := (List.getElem?_eq_some_iff.1 h).1
  have e : ks.drop c = x :: ks.drop (c + 1) := by
    rw [List.drop_eq_getElem_cons hi, (List.getElem?_eq_some_iff.1 h).2]
  rw [e, kidsFrom]
  rfl
theorem all_step {l l0 : List PNode} {j : Nat} {nd : PNode} (h : l[j]? = some nd) : (l.drop j).all (nodeOkB l0) = (nodeOkB l0 nd && (l.drop (j + 1)).all (nodeOkB l0)) := by
  have hi := (List.getElem?_eq_some_iff.1 h).1
  have e : l.drop j = nd :: l.drop (j + 1) := by
    rw [List.drop_eq_getElem_cons hi, (List.getElem?_eq_some_iff.1 h).2]
  rw [e, List.all_cons]
theorem lv_expr {x : Int} (h : isLvalueB x = true) : isExprB x = true := by
  unfold isLvalueB at h; simp at h; unfold isExprB; rw [inB_true]; omega
/-- the kinds that are known -/
theorem known_cases {k : Int} {P : Int → Prop} (h : knownB k = true) (h1 : P 1) (h2 : P 2) (h3 : P 3) (h4 : P 4) (h5 : P 5) (h6 : P 6) (h7 : P 7) (h8 : P 8) (h9 : P 9) (h10 : P 10) (h11 : P 11) (h12 : P 12) (h13 : P 13) (h14 : P 14) (h15 : P 15) (h16 : P 16)
    (h20 : P 20) (h21 : P 21) (h22 : P 22) (h23 : P 23) (h24 : P 24) (h25 : P 25) (h26 : P 26) (h27 : P 27) (h28 : P 28) (h29 : P 29) (h30 : P 30) (h31 : P 31) (h32 : P 32) (h33 : P 33) (h34 : P 34) (h40 : P 40) (h41 : P 41) (h42 : P 42) (h43 : P 43) (h44 : P 44) (h45 : P 45) : P k := by
  unfold knownB at h
  simp only [Bool.or_eq_true, inB_true] at h
  rcases (by omega : k = 1 ∨ k = 2 ∨ k = 3 ∨ k = 4 ∨ k = 5 ∨ k = 6 ∨ k = 7 ∨ k = 8 ∨ k = 9 ∨ k = 10 ∨ k = 11 ∨ k = 12 ∨ k = 13 ∨ k = 14 ∨ k = 15 ∨ k = 16 ∨ k = 20 ∨ k = 21 ∨ k = 22 ∨ k = 23 ∨ k = 24 ∨ k = 25 ∨ k = 26 ∨ k = 27 ∨ k = 28 ∨ k = 29 ∨ k = 30 ∨ k = 31 ∨ k = 32 ∨ k = 33 ∨ k = 34 ∨ k = 40 ∨ k = 41 ∨ k = 42 ∨ k = 43 ∨ k = 44 ∨ k = 45) with e | e | e | e | e | e | e | e | e | e | e | e | e | e | e | e | e | e | e | e | e | e | e | e | e | e | e | e | e | e | e | e | e | e | e | e | e <;> rw [e] <;> assumption
end Go.Proofs.YtnidfoboiddhfaaDoor
