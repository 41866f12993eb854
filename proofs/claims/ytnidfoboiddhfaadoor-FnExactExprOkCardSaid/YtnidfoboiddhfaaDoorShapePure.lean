/- Where the subtrees of a list begin, as plain data. No program is in sight here. -/
import Derived.Test.YtnidfoboiddhfaaDoorData
namespace Go.Proofs.YtnidfoboiddhfaaDoor
open Go.RowKit
set_option linter.unusedVariables false

/-- from the last kid to the first: each is the node right before what has been passed; st: where the subtrees of the nodes begin -/
def backK (st : List Nat) : List Int → Nat → Option Nat
  | [], at_ => some at_
  | k :: r, at_ => if at_ ≠ 0 ∧ k = (at_ : Int) - 1 then backK st r (st.getD (at_ - 1) 0) else none
def startsF : List PNode → List Nat → Option (List Nat)
  | [], done => some done
  | nd :: r, done => match backK done nd.kids.reverse done.length with
    | none => none
    | some a => startsF r (done ++ [a])
def startsL (l : List PNode) : Option (List Nat) := startsF l []
def sizeOk (l : List PNode) : Bool := decide (1 ≤ l.length) && decide (l.length ≤ 400)
def shapeB (l : List PNode) : Bool := sizeOk l && match startsL l with
  | some s => s.getD (l.length - 1) 0 == 0
  | none => false
/-- each subtree begins no later than at its node -/
def Low (st : List Nat) : Prop := ∀ (j x : Nat), st[j]? = some x → x ≤ j
theorem Low.nil : Low [] := fun j x h => by simp at h
theorem Low.snoc {st : List Nat} (h : Low st) {a : Nat} (ha : a ≤ st.length) : Low (st ++ [a]) := by
  intro j x hx
  by_cases hj : j < st.length
  · rw [List.getElem?_append_left hj] at hx; exact h j x hx
  · rw [List.getElem?_append_right (by omega)] at hx
    have : j - st.length = 0 := by
      by_cases e : j - st.length = 0
      · exact e
      · rw [List.getElem?_eq_none (by simp; omega)] at hx; cases hx
    rw [this] at hx
    simp at hx
    omega
theorem Low.get {st : List Nat} (h : Low st) {j : Nat} (hj : j < st.length) : ∃ x, st[j]? = some x ∧ st.getD j 0 = x ∧ x ≤ j :=
  ⟨st[j], List.getElem?_eq_getElem hj, by simp [List.getD, List.getElem?_eq_getElem hj], h j _ (List.getElem?_eq_getElem hj)⟩
theorem backK_le {st : List Nat} (h : Low st) : ∀ (ks : List Int) (at_ a : Nat), at_ ≤ st.length → backK st ks at_ = some a → a ≤ at_
  | [], at_, a, _, e => by simp [backK] at e; omega
  | k :: r, at_, a, hl, e => by
    rw [backK] at e
    by_cases hc : at_ ≠ 0 ∧ k = (at_ : Int) - 1
    · rw [if_pos hc] at e
      obtain ⟨x, _, h2, h3⟩ := h.get (j := at_ - 1) (by omega)
      rw [h2] at e
      have := backK_le h r x a (by omega) e
      omega
    · rw [if_neg hc] at e; cases e
theorem backK_snoc (st : List Nat) (ks : List Int) (c : Nat) (k : Int) (hk : ks[c]? = some k) (at_ : Nat) : backK st ((ks.take (c + 1)).reverse) at_ = if at_ ≠ 0 ∧ k = (at_ : Int) - 1 then backK st (ks.take c).reverse (st.getD (at_ - 1) 0) else none := by
  rw [List.take_add_one, hk]
  simp [backK]
theorem backK_append (st : List Nat) (y : List Int) : ∀ (x : List Int) (a : Nat), backK st (x ++ y) a = match backK st x a with
    | none => none
    | some b => backK st y b
  | [], a => rfl
  | k :: r, a => by
    rw [List.cons_append, backK, backK]
    by_cases hc : a ≠ 0 ∧ k = (a : Int) - 1
    · rw [if_pos hc, if_pos hc]; exact backK_append st y r _
    · rw [if_neg hc, if_neg hc]
theorem backK_one (st : List Nat) (x : List Int) (k : Int) (a b : Nat) (h : backK st x a = some b) : backK st (x ++ [k]) a = if b ≠ 0 ∧ k = (b : Int) - 1 then some (st.getD (b - 1) 0) else none := by
  rw [backK_append, h]
  show (if b ≠ 0 ∧ k = (b : Int) - 1 then backK st [] (st.getD (b - 1) 0) else none) = _
  rfl
theorem backK_pre (st : List Nat) (x y : List Int) (a : Nat) (h : backK st x a = none) : backK st (x ++ y) a = none := by rw [backK_append, h]
theorem startsF_drop (l : List PNode) (i : Nat) (nd : PNode) (h : l[i]? = some nd) (done : List Nat) : startsF (l.drop i) done = match backK done nd.kids.reverse done.length with
    | none => none
    | some a => startsF (l.drop (i + 1)) (done ++ [a]) := by
  have hi := (List.getElem?_eq_some_iff.1 h).1
  have e : l.drop i = nd :: l.drop (i + 1) := by
    rw [List.drop_eq_getElem_cons hi, (List.getElem?_eq_some_iff.1 h).2]
  rw [e, startsF]
theorem startsF_low : ∀ (l : List PNode) (done s : List Nat), Low done → startsF l done = some s → Low s ∧ s.length = done.length + l.length
  | [], done, s, h, e => by simp [startsF] at e; subst e; exact ⟨h, by simp⟩
  | nd :: r, done, s, h, e => by
    rw [startsF] at e
    cases hb : backK done nd.kids.reverse done.length with
    | none => rw [hb] at e; cases e
    | some a =>
      rw [hb] at e
      have := startsF_low r (done ++ [a]) s (h.snoc (backK_le h _ _ _ (Nat.le_refl _) hb)) e
      simp at this ⊢
      exact ⟨this.1, by omega⟩
theorem startsL_low {l : List PNode} {s : List Nat} (e : startsL l = some s) : Low s ∧ s.length = l.length := by
  have := startsF_low l [] s Low.nil e
  simpa using this
end Go.Proofs.YtnidfoboiddhfaaDoor
