/- Several texts in one (printed by a program): LexPure, ShapePure, DepthPure, FieldPure. -/
import Derived.Test.YtlabmboedjnpmaaGreatDoorPureR
import Derived.Test.YtlabmboedjnpmaaGreatDoorMemR
/-! LexPure -/
namespace Go.Proofs.YtlabmboedjnpmaaGreatDoor
open Go.RowKit
set_option linter.unusedVariables false

/-- has a text no byte 10? -/
def plainB (s : ByteArray) : Bool := !s.data.toList.contains 10
def tokenOkB (t : PTok) : Bool :=
  if t.text.size = 0 then false
  else if t.kind == 2 then bAt t.text 0 == 35 && plainB t.text
  else if t.kind == 3 then numEnd t.text 0 == t.text.size
  else if t.kind == 4 then strEnd t.text 0 == t.text.size
  else if t.kind == 5 then ereEnd t.text 0 == t.text.size
  else if t.kind == 6 || t.kind == 7 then nameOkB t.text
  else if t.kind == 8 then isBuiltinB t.text
  else t.text.data.toList == (spellOf t.kind).data.toList
/-- may a token stand behind one of a kind and ahead of one of a kind? -/
def stands (before next : Int) (t : PTok) : Bool :=
  tokenOkB t && !(t.kind == 7 && next != 32) && !(t.kind == 2 && next != 1 && next != 0) && !(t.kind == 5 && endsB before) && !((t.kind == 58 || t.kind == 41) && !endsB before)
def tokensGo : Int → List PTok → Bool
  | _, [] => true
  | before, t :: r => stands before (match r with | [] => 0 | u :: _ => u.kind) t && tokensGo t.kind r
def tokensOkB (l : List PTok) : Bool := decide (l.length ≤ 3000) && tokensGo 0 l
def gapB (a b : PTok) : Bool :=
  if a.text.size = 0 ∨ b.text.size = 0 ∨ a.kind = 2 ∨ a.kind = 1 ∨ b.kind = 1 then false
  else if isWordB (bAt a.text (a.text.size - 1)) && isWordB (bAt b.text 0) then true
  else if a.kind == 3 && (isWordB (bAt b.text 0) || bAt b.text 0 == 46) then true
  else if a.kind == 6 && b.kind == 32 then true
  else inB a.kind 30 68 && decide (a.text.size < (opAt (a.text ++ b.text) 0).2)
def spellGo : Option PTok → List PTok → List UInt8
  | _, [] => []
  | none, t :: r => t.text.data.toList ++ spellGo (some t) r
  | some a, t :: r => (if gapB a t = true then [32] else []) ++ (t.text.data.toList ++ spellGo (some t) r)
def spellL (l : List PTok) : ByteArray := bs (spellGo none l)
def noTok : PTok := ⟨0, bs [], 0⟩
def finTok (s : ByteArray) (k : Int) (a : Nat) (e : Int) : PTok := if e < 0 then noTok else ⟨k, s.extract a e.toNat, a⟩
def lineEnd (s : ByteArray) (k : Int) : Int := runEnd (fun b => b != 10) s k
def wordKind (s w : ByteArray) (e : Int) : Int := if keywordOf w != 0 then keywordOf w else if isBuiltinB w then 8 else if bAt s e == 40 then 7 else 6
/-- the token that begins at a place, behind one of a kind; of kind 0 where there is none -/
def tokAt (s : ByteArray) (a : Nat) (before : Int) : PTok :=
  if bAt s a = 10 then ⟨1, s.extract a (a + 1), a⟩
  else if bAt s a = 35 then finTok s 2 a (lineEnd s a)
  else if isDigitB (bAt s a) || bAt s a == 46 then finTok s 3 a (numEnd s a)
  else if bAt s a = 34 then finTok s 4 a (strEnd s a)
  else if bAt s a == 47 && !endsB before then finTok s 5 a (ereEnd s a)
  else if isLetterB (bAt s a) then
    (if nameShape (s.extract a (nameEnd s a).toNat) then ⟨wordKind s (s.extract a (nameEnd s a).toNat) (nameEnd s a), s.extract a (nameEnd s a).toNat, a⟩ else noTok)
  else if (opAt s a).2 = 0 then noTok else finTok s (opAt s a).1 a (a + (opAt s a).2 : Nat)
/-- the tokens from a place on, or where a fault is -/
def lexGo (s : ByteArray) (a : Nat) (before : Int) : Except Nat (List PTok) :=
  if h : a < s.size then
    if isBlankB (bAt s a) = true then lexGo s (a + 1) before
    else if bAt s a = 92 ∧ bAt s (a + 1) = 10 then lexGo s (a + 2) before
    else if h2 : (tokAt s a before).kind = 0 ∨ (tokAt s a before).text.size = 0 then .error a
    else match lexGo s (a + (tokAt s a before).text.size) (tokAt s a before).kind with
      | .error e => .error e
      | .ok r => .ok (tokAt s a before :: r)
  else .ok []
termination_by s.size - a
decreasing_by all_goals omega
end Go.Proofs.YtlabmboedjnpmaaGreatDoor
/-! ShapePure -/
namespace Go.Proofs.YtlabmboedjnpmaaGreatDoor
open Go.RowKit
set_option linter.unusedVariables false

/-- from the last kid to the first: each is the node right before what has been passed; st: where the subtrees of the nodes begin -/
def backK (st : List Nat) : List Int → Nat → Option Nat
  | [], at_ => some at_
  | k :: r, at_ => if at_ ≠ 0 ∧ k = (at_ : Int) - 1 then backK st r (st.getD (at_ - 1) 0) else none
def startsF : List PNode → List Nat → Option (List Nat)
  | [], done => some done
  | nd :: r, done => match backK done nd.kids.reverse done.length with
    | none => none
    | some a => startsF r (done ++ [a])
def startsL (l : List PNode) : Option (List Nat) := startsF l []
def sizeOk (l : List PNode) : Bool := decide (1 ≤ l.length) && decide (l.length ≤ 400)
def shapeB (l : List PNode) : Bool := sizeOk l && match startsL l with
  | some s => s.getD (l.length - 1) 0 == 0
  | none => false
/-- each subtree begins no later than at its node -/
def Low (st : List Nat) : Prop := ∀ (j x : Nat), st[j]? = some x → x ≤ j
theorem Low.nil : Low [] := fun j x h => by simp at h
theorem Low.snoc {st : List Nat} (h : Low st) {a : Nat} (ha : a ≤ st.length) : Low (st ++ [a]) := by
  intro j x hx
  by_cases hj : j < st.length
  · rw [List.getElem?_append_left hj] at hx; exact h j x hx
  · rw [List.getElem?_append_right (by omega)] at hx
    have : j - st.length = 0 := by
      by_cases e : j - st.length = 0
      · exact e
      · rw [List.getElem?_eq_none (by simp; omega)] at hx; cases hx
    rw [this] at hx
    simp at hx
    omega
theorem Low.get {st : List Nat} (h : Low st) {j : Nat} (hj : j < st.length) : ∃ x, st[j]? = some x ∧ st.getD j 0 = x ∧ x ≤ j :=
  ⟨st[j], List.getElem?_eq_getElem hj, by simp [List.getD, List.getElem?_eq_getElem hj], h j _ (List.getElem?_eq_getElem hj)⟩
theorem backK_le {st : List Nat} (h : Low st) : ∀ (ks : List Int) (at_ a : Nat), at_ ≤ st.length → backK st ks at_ = some a → a ≤ at_
  | [], at_, a, _, e => by simp [backK] at e; omega
  | k :: r, at_, a, hl, e => by
    rw [backK] at e
    by_cases hc : at_ ≠ 0 ∧ k = (at_ : Int) - 1
    · rw [if_pos hc] at e
      obtain ⟨x, _, h2, h3⟩ := h.get (j := at_ - 1) (by omega)
      rw [h2] at e
      have := backK_le h r x a (by omega) e
      omega
    · rw [if_neg hc] at e; cases e
theorem backK_snoc (st : List Nat) (ks : List Int) (c : Nat) (k : Int) (hk : ks[c]? = some k) (at_ : Nat) : backK st ((ks.take (c + 1)).reverse) at_ = if at_ ≠ 0 ∧ k = (at_ : Int) - 1 then backK st (ks.take c).reverse (st.getD (at_ - 1) 0) else none := by
  rw [List.take_add_one, hk]
  simp [backK]
theorem backK_append (st : List Nat) (y : List Int) : ∀ (x : List Int) (a : Nat), backK st (x ++ y) a = match backK st x a with
    | none => none
    | some b => backK st y b
  | [], a => rfl
  | k :: r, a => by
    rw [List.cons_append, backK, backK]
    by_cases hc : a ≠ 0 ∧ k = (a : Int) - 1
    · rw [if_pos hc, if_pos hc]; exact backK_append st y r _
    · rw [if_neg hc, if_neg hc]
theorem backK_one (st : List Nat) (x : List Int) (k : Int) (a b : Nat) (h : backK st x a = some b) : backK st (x ++ [k]) a = if b ≠ 0 ∧ k = (b : Int) - 1 then some (st.getD (b - 1) 0) else none := by
  rw [backK_append, h]
  show (if b ≠ 0 ∧ k = (b : Int) - 1 then backK st [] (st.getD (b - 1) 0) else none) = _
  rfl
theorem backK_pre (st : List Nat) (x y : List Int) (a : Nat) (h : backK st x a = none) : backK st (x ++ y) a = none := by rw [backK_append, h]
theorem startsF_drop (l : List PNode) (i : Nat) (nd : PNode) (h : l[i]? = some nd) (done : List Nat) : startsF (l.drop i) done = match backK done nd.kids.reverse done.length with
    | none => none
    | some a => startsF (l.drop (i + 1)) (done ++ [a]) := by
  have hi := (List.getElem?_eq_some_iff.1 h).1
  have e : l.drop i = nd :: l.drop (i + 1) := by
    rw [List.drop_eq_getElem_cons hi, (List.getElem?_eq_some_iff.1 h).2]
  rw [e, startsF]
theorem startsF_low : ∀ (l : List PNode) (done s : List Nat), Low done → startsF l done = some s → Low s ∧ s.length = done.length + l.length
  | [], done, s, h, e => by simp [startsF] at e; subst e; exact ⟨h, by simp⟩
  | nd :: r, done, s, h, e => by
    rw [startsF] at e
    cases hb : backK done nd.kids.reverse done.length with
    | none => rw [hb] at e; cases e
    | some a =>
      rw [hb] at e
      have := startsF_low r (done ++ [a]) s (h.snoc (backK_le h _ _ _ (Nat.le_refl _) hb)) e
      simp at this ⊢
      exact ⟨this.1, by omega⟩
theorem startsL_low {l : List PNode} {s : List Nat} (e : startsL l = some s) : Low s ∧ s.length = l.length := by
  have := startsF_low l [] s Low.nil e
  simpa using this
end Go.Proofs.YtlabmboedjnpmaaGreatDoor
/-! DepthPure -/
namespace Go.Proofs.YtlabmboedjnpmaaGreatDoor
open Go.RowKit
set_option linter.unusedVariables false

/-- every kid lies before its node -/
def KidsLow (l : List PNode) : Prop := ∀ (i : Nat) (nd : PNode), l[i]? = some nd → ∀ k ∈ nd.kids, 0 ≤ k ∧ k < (i : Int)
theorem backK_mem {st : List Nat} (h : Low st) : ∀ (ks : List Int) (at_ a : Nat), at_ ≤ st.length → backK st ks at_ = some a → ∀ k ∈ ks, 0 ≤ k ∧ k < (at_ : Int)
  | [], _, _, _, _, k, hk => by simp at hk
  | k :: r, at_, a, hl, e, x, hx => by
    rw [backK] at e
    by_cases hc : at_ ≠ 0 ∧ k = (at_ : Int) - 1
    · rw [if_pos hc] at e
      obtain ⟨y, _, h2, h3⟩ := h.get (j := at_ - 1) (by omega)
      rw [h2] at e
      rcases List.mem_cons.1 hx with rfl | hx
      · omega
      · have := backK_mem h r y a (by omega) e x hx
        omega
    · rw [if_neg hc] at e; cases e
theorem startsF_kids : ∀ (l : List PNode) (done s : List Nat), Low done → startsF l done = some s → ∀ (i : Nat) (nd : PNode), l[i]? = some nd → ∀ k ∈ nd.kids, 0 ≤ k ∧ k < ((done.length + i : Nat) : Int)
  | [], _, _, _, _, i, nd, hi => by simp at hi
  | x :: r, done, s, h, e, i, nd, hi => by
    rw [startsF] at e
    cases hb : backK done x.kids.reverse done.length with
    | none => rw [hb] at e; cases e
    | some a =>
      rw [hb] at e
      intro k hk
      cases i with
      | zero =>
        simp at hi
        subst hi
        have := backK_mem h _ _ _ (Nat.le_refl _) hb k (by simpa using hk)
        simpa using this
      | succ i =>
        have hi' : r[i]? = some nd := by simpa using hi
        have := startsF_kids r (done ++ [a]) s (h.snoc (backK_le h _ _ _ (Nat.le_refl _) hb)) e i nd hi' k hk
        simp at this
        omega
theorem startsL_kids {l : List PNode} {s : List Nat} (e : startsL l = some s) : KidsLow l := by
  intro i nd hi k hk
  have := startsF_kids l [] s Low.nil e i nd hi k hk
  simpa using this
theorem shapeB_parts {l : List PNode} (h : shapeB l = true) : 1 ≤ l.length ∧ l.length ≤ 400 ∧ ∃ s, startsL l = some s ∧ s.getD (l.length - 1) 0 = 0 := by
  unfold shapeB sizeOk at h
  simp only [Bool.and_eq_true, decide_eq_true_eq] at h
  obtain ⟨⟨h1, h2⟩, h3⟩ := h
  refine ⟨h1, h2, ?_⟩
  cases hs : startsL l with
  | none => rw [hs] at h3; cases h3
  | some s => rw [hs] at h3; exact ⟨s, rfl, by simpa using h3⟩
/-- the greatest depth among some nodes -/
def maxD (d : List Nat) : List Int → Nat
  | [] => 0
  | k :: r => max (d.getD k.toNat 0) (maxD d r)
def depsF : List PNode → List Nat → List Nat
  | [], d => d
  | nd :: r, d => depsF r (d ++ [maxD d nd.kids + 1])
def depsL (l : List PNode) : List Nat := depsF l []
def depthL (l : List PNode) : Nat := if shapeB l = true then (depsL l).getD (l.length - 1) 0 else 0
theorem maxD_append (d : List Nat) (a b : List Int) : maxD d (a ++ b) = max (maxD d a) (maxD d b) := by
  induction a with
  | nil => simp [maxD]
  | cons x a ih => simp only [List.cons_append, maxD, ih]; omega
theorem maxD_take {d : List Nat} {ks : List Int} {c : Nat} {k : Int} (h : ks[c]? = some k) : maxD d (ks.take (c + 1)) = max (maxD d (ks.take c)) (d.getD k.toNat 0) := by
  rw [List.take_add_one, h, maxD_append]
  simp [maxD]
theorem maxD_more (d e : List Nat) : ∀ ks : List Int, (∀ k ∈ ks, 0 ≤ k ∧ k < (d.length : Int)) → maxD (d ++ e) ks = maxD d ks
  | [], _ => rfl
  | k :: r, h => by
    have h1 := h k (by simp)
    simp only [maxD]
    rw [maxD_more d e r (fun x hx => h x (List.mem_cons_of_mem _ hx))]
    congr 1
    simp only [List.getD_eq_getElem?_getD]
    rw [List.getElem?_append_left (by omega)]
theorem depsF_pre : ∀ (l : List PNode) (d : List Nat), ∃ e, depsF l d = d ++ e ∧ e.length = l.length
  | [], d => ⟨[], by simp [depsF], rfl⟩
  | nd :: r, d => by
    obtain ⟨e, he, hl⟩ := depsF_pre r (d ++ [maxD d nd.kids + 1])
    exact ⟨[maxD d nd.kids + 1] ++ e, by rw [depsF, he]; simp, by simp [hl]⟩
theorem depsF_drop (l : List PNode) (i : Nat) (nd : PNode) (h : l[i]? = some nd) (d : List Nat) : depsF (l.drop i) d = depsF (l.drop (i + 1)) (d ++ [maxD d nd.kids + 1]) := by
  have hi := (List.getElem?_eq_some_iff.1 h).1
  have e : l.drop i = nd :: l.drop (i + 1) := by
    rw [List.drop_eq_getElem_cons hi, (List.getElem?_eq_some_iff.1 h).2]
  rw [e, depsF]
theorem depsF_get : ∀ (l : List PNode) (d : List Nat), (∀ (i : Nat) (nd : PNode), l[i]? = some nd → ∀ k ∈ nd.kids, 0 ≤ k ∧ k < ((d.length + i : Nat) : Int)) → ∀ (i : Nat) (nd : PNode), l[i]? = some nd → (depsF l d)[d.length + i]? = some (maxD (depsF l d) nd.kids + 1)
  | [], _, _, i, nd, hi => by simp at hi
  | x :: r, d, h, i, nd, hi => by
    rw [depsF]
    cases i with
    | zero =>
      simp at hi
      subst hi
      obtain ⟨e, he, _⟩ := depsF_pre r (d ++ [maxD d x.kids + 1])
      rw [he, List.append_assoc, maxD_more d _ x.kids (fun k hk => by have := h 0 x rfl k hk; simpa using this)]
      simp
    | succ i =>
      have hi' : r[i]? = some nd := by simpa using hi
      have := depsF_get r (d ++ [maxD d x.kids + 1]) (fun j y hj k hk => by have := h (j + 1) y (by simpa using hj) k hk; simp; omega) i nd hi'
      have e : (d ++ [maxD d x.kids + 1]).length + i = d.length + (i + 1) := by simp; omega
      rw [e] at this
      exact this
theorem depsL_get {l : List PNode} (h : KidsLow l) {i : Nat} {nd : PNode} (hi : l[i]? = some nd) : (depsL l)[i]? = some (maxD (depsL l) nd.kids + 1) := by
  have := depsF_get l [] (fun j y hj k hk => by have := h j y hj k hk; simpa using this) i nd hi
  simpa [depsL] using this
theorem depsF_le : ∀ (l : List PNode) (d : List Nat), (∀ (j x : Nat), d[j]? = some x → x ≤ j + 1) → ∀ (j x : Nat), (depsF l d)[j]? = some x → x ≤ j + 1
  | [], d, h => h
  | nd :: r, d, h => by
    rw [depsF]
    refine depsF_le r _ ?_
    intro j x hx
    by_cases hj : j < d.length
    · rw [List.getElem?_append_left hj] at hx; exact h j x hx
    · rw [List.getElem?_append_right (by omega)] at hx
      have hj0 : j - d.length = 0 := by
        by_cases e : j - d.length = 0
        · exact e
        · rw [List.getElem?_eq_none (by simp; omega)] at hx; cases hx
      rw [hj0] at hx
      simp at hx
      have : maxD d nd.kids ≤ d.length := by
        generalize nd.kids = ks
        induction ks with
        | nil => simp [maxD]
        | cons k r ih =>
          simp only [maxD]
          have h2 : d.getD k.toNat 0 ≤ d.length := by
            by_cases hk : k.toNat < d.length
            · rw [List.getD_eq_getElem?_getD, List.getElem?_eq_getElem hk]
              have := h k.toNat _ (List.getElem?_eq_getElem hk)
              simp only [Option.getD_some]
              omega
            · rw [List.getD_eq_getElem?_getD, List.getElem?_eq_none (by omega)]; simp
          omega
      omega
theorem depsL_le {l : List PNode} {j x : Nat} (h : (depsL l)[j]? = some x) : x ≤ j + 1 := depsF_le l [] (fun j x h => by simp at h) j x h
theorem depsL_len (l : List PNode) : (depsL l).length = l.length := by
  obtain ⟨e, he, hl⟩ := depsF_pre l []
  unfold depsL
  rw [he]
  simpa using hl
end Go.Proofs.YtlabmboedjnpmaaGreatDoor
/-! FieldPure -/
namespace Go.Proofs.YtlabmboedjnpmaaGreatDoor
open Go.RowKit
set_option linter.unusedVariables false

def stepB (o : Int) : Bool := o == 51 || o == 52
def opOkB (k o : Int) : Bool :=
  if k = 9 ∨ k = 10 then stepB o
  else if k = 11 then o == 55 || o == 56 || o == 61
  else if k = 12 then opLevel o != 0
  else if k = 15 then isAssignB o
  else if k = 21 then inB o 0 1
  else if k = 42 then inB o 1 3
  else if k = 43 then o == 1 || o == 3
  else o == 0
def emptyB (t : ByteArray) : Bool := t.toList.isEmpty
/-- which texts the print's target may be -/
def tgtL : List (List UInt8) := [[], [62], [62, 62], [124]]
def tgtB (u : ByteArray) : Bool := u.toList.isEmpty || u.toList == [62] || u.toList == [62, 62] || u.toList == [124]
theorem tgt_find (u : ByteArray) : decide (0 ≤ findIx tgtL u) = tgtB u := by
  unfold tgtB findIx
  rw [show u.toList.isEmpty = (u.toList == []) by cases u.toList <;> rfl]
  rw [ByteArray.toList_eq]
  generalize u.data.toList = x
  simp only [tgtL, findFrom]
  by_cases h1 : x = []
  · subst h1; rfl
  by_cases h2 : x = [62]
  · subst h2; rfl
  by_cases h3 : x = [62, 62]
  · subst h3; rfl
  by_cases h4 : x = [124]
  · subst h4; rfl
  rw [if_neg (Ne.symm h1), if_neg (Ne.symm h2), if_neg (Ne.symm h3), if_neg (Ne.symm h4)]
  have e : ∀ y : List UInt8, ¬ x = y → (x == y) = false := fun y h => by simpa using h
  rw [e _ h1, e _ h2, e _ h3, e _ h4]
  rfl
def textOkB (k : Int) (t u : ByteArray) : Bool :=
  if k = 1 ∨ k = 5 ∨ k = 7 ∨ k = 13 ∨ k = 27 ∨ k = 44 then nameOkB t && emptyB u
  else if k = 2 then tokenOkB ⟨3, t, 0⟩ && emptyB u
  else if k = 3 then tokenOkB ⟨4, t, 0⟩ && emptyB u
  else if k = 4 then tokenOkB ⟨5, t, 0⟩ && emptyB u
  else if k = 34 then tokenOkB ⟨2, t, 0⟩ && emptyB u
  else if k = 8 then isBuiltinB t && emptyB u
  else if k = 32 then nameOkB t && nameOkB u
  else if k = 21 then emptyB t && tgtB u
  else emptyB t && emptyB u
def manyLo (k o : Int) (u : ByteArray) : Int :=
  if k = 5 ∨ k = 13 then 1
  else if k = 7 ∨ k = 8 ∨ k = 27 then 0
  else if k = 6 ∨ k = 9 ∨ k = 10 ∨ k = 11 ∨ k = 20 ∨ k = 32 ∨ k = 40 ∨ k = 41 then 1
  else if k = 12 ∨ k = 15 ∨ k = 29 ∨ k = 30 then 2
  else if k = 14 then 3
  else if k = 21 then (if emptyB u then o else o + 1)
  else if k = 23 ∨ k = 24 then 0
  else if k = 28 then 2
  else if k = 31 then 4
  else if k = 33 ∨ k = 45 then 0
  else if k = 42 then 1 + Int.tdiv o 3
  else if k = 43 then 2 + Int.tdiv o 3
  else if k = 44 then 1
  else 0
def manyHi (k o : Int) (u : ByteArray) (m : Int) : Int :=
  if k = 5 ∨ k = 13 then 6
  else if k = 7 ∨ k = 8 ∨ k = 27 then 6
  else if k = 6 ∨ k = 9 ∨ k = 10 ∨ k = 11 ∨ k = 20 ∨ k = 32 ∨ k = 40 ∨ k = 41 then 1
  else if k = 12 ∨ k = 15 ∨ k = 29 ∨ k = 30 then 2
  else if k = 14 then 3
  else if k = 21 then (if emptyB u then 6 else 7)
  else if k = 23 ∨ k = 24 then 1
  else if k = 28 then 3
  else if k = 31 then 4
  else if k = 33 ∨ k = 45 then m
  else if k = 42 then 1 + Int.tdiv o 3
  else if k = 43 then 2 + Int.tdiv o 3
  else if k = 44 then 7
  else 0
def knownB (k : Int) : Bool := inB k 1 16 || inB k 20 34 || inB k 40 45
def fieldsB (k o : Int) (t u : ByteArray) (m : Int) : Bool := knownB k && opOkB k o && textOkB k t u && inB m (manyLo k o u) (manyHi k o u m)
/-- may the c-th of m kids of a node be of a kind? -/
def kidB (k o m : Int) (c x : Int) : Bool :=
  if k = 9 ∨ k = 10 then isLvalueB x
  else if k = 15 then isExprB x && (decide (0 < c) || isLvalueB x)
  else if k = 28 then (c == 0 && isExprB x) || (decide (0 < c) && x == 33)
  else if k = 29 then (c == 0 && isExprB x) || (c == 1 && x == 33)
  else if k = 30 then (c == 0 && x == 33) || (c == 1 && isExprB x)
  else if k = 31 then (decide (c < 3) && (isExprB x || x == 16)) || (c == 3 && x == 33)
  else if k = 32 ∨ k = 40 ∨ k = 41 then x == 33
  else if k = 33 then isStmtB x
  else if k = 42 then (o == 1 && isExprB x) || (o == 2 && x == 33) || (o == 3 && ((c == m - 1 && x == 33) || (!(c == m - 1) && isExprB x)))
  else if k = 43 then (decide (c < 2) && isExprB x) || (c == 2 && x == 33)
  else if k = 44 then (c == m - 1 && x == 33) || (!(c == m - 1) && x == 1)
  else if k = 45 then inB x 40 44 || x == 34
  else isExprB x
def kindAt (l : List PNode) (i : Int) : Int := match l[i.toNat]? with
  | some nd => nd.kind
  | none => 0
def kidsFrom (l : List PNode) (k o m : Int) : List Int → Int → Bool
  | [], _ => true
  | x :: r, c => kidB k o m c (kindAt l x) && kidsFrom l k o m r (c + 1)
def nodeOkB (l : List PNode) (nd : PNode) : Bool := fieldsB nd.kind nd.op nd.text nd.other nd.kids.length && kidsFrom l nd.kind nd.op nd.kids.length nd.kids 0
def treeB (l : List PNode) : Bool := shapeB l && decide (depthL l ≤ 40) && l.all (nodeOkB l)
def lastKind (l : List PNode) : Int := kindAt l ((l.length : Int) - 1)
def exprTreeB (l : List PNode) : Bool := treeB l && isExprB (lastKind l)
def progTreeB (l : List PNode) : Bool := treeB l && lastKind l == 45

theorem kidsFrom_step {l : List PNode} {k o m : Int} {ks : List Int} {c : Nat} {x : Int} (h : ks[c]? = some x) : kidsFrom l k o m (ks.drop c) c = (kidB k o m c (kindAt l x) && kidsFrom l k o m (ks.drop (c + 1)) ((c + 1 : Nat) : Int)) := by
  have hi := (List.getElem?_eq_some_iff.1 h).1
  have e : ks.drop c = x :: ks.drop (c + 1) := by
    rw [List.drop_eq_getElem_cons hi, (List.getElem?_eq_some_iff.1 h).2]
  rw [e, kidsFrom]
  rfl
theorem all_step {l l0 : List PNode} {j : Nat} {nd : PNode} (h : l[j]? = some nd) : (l.drop j).all (nodeOkB l0) = (nodeOkB l0 nd && (l.drop (j + 1)).all (nodeOkB l0)) := by
  have hi := (List.getElem?_eq_some_iff.1 h).1
  have e : l.drop j = nd :: l.drop (j + 1) := by
    rw [List.drop_eq_getElem_cons hi, (List.getElem?_eq_some_iff.1 h).2]
  rw [e, List.all_cons]
theorem lv_expr {x : Int} (h : isLvalueB x = true) : isExprB x = true := by
  unfold isLvalueB at h; simp at h; unfold isExprB; rw [inB_true]; omega
/-- the kinds that are known -/
theorem known_cases {k : Int} {P : Int → Prop} (h : knownB k = true) (h1 : P 1) (h2 : P 2) (h3 : P 3) (h4 : P 4) (h5 : P 5) (h6 : P 6) (h7 : P 7) (h8 : P 8) (h9 : P 9) (h10 : P 10) (h11 : P 11) (h12 : P 12) (h13 : P 13) (h14 : P 14) (h15 : P 15) (h16 : P 16)
    (h20 : P 20) (h21 : P 21) (h22 : P 22) (h23 : P 23) (h24 : P 24) (h25 : P 25) (h26 : P 26) (h27 : P 27) (h28 : P 28) (h29 : P 29) (h30 : P 30) (h31 : P 31) (h32 : P 32) (h33 : P 33) (h34 : P 34) (h40 : P 40) (h41 : P 41) (h42 : P 42) (h43 : P 43) (h44 : P 44) (h45 : P 45) : P k := by
  unfold knownB at h
  simp only [Bool.or_eq_true, inB_true] at h
  rcases (by omega : k = 1 ∨ k = 2 ∨ k = 3 ∨ k = 4 ∨ k = 5 ∨ k = 6 ∨ k = 7 ∨ k = 8 ∨ k = 9 ∨ k = 10 ∨ k = 11 ∨ k = 12 ∨ k = 13 ∨ k = 14 ∨ k = 15 ∨ k = 16 ∨ k = 20 ∨ k = 21 ∨ k = 22 ∨ k = 23 ∨ k = 24 ∨ k = 25 ∨ k = 26 ∨ k = 27 ∨ k = 28 ∨ k = 29 ∨ k = 30 ∨ k = 31 ∨ k = 32 ∨ k = 33 ∨ k = 34 ∨ k = 40 ∨ k = 41 ∨ k = 42 ∨ k = 43 ∨ k = 44 ∨ k = 45) with e | e | e | e | e | e | e | e | e | e | e | e | e | e | e | e | e | e | e | e | e | e | e | e | e | e | e | e | e | e | e | e | e | e | e | e | e <;> rw [e] <;> assumption
end Go.Proofs.YtlabmboedjnpmaaGreatDoor
