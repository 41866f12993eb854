/- Depths of subtrees, as plain data; what a valid shape gives. No program is in sight here. -/
import Derived.Test.YtnidfoboiddhfaaDoorShapePure
namespace Go.Proofs.YtnidfoboiddhfaaDoor
open Go.RowKit
set_option linter.unusedVariables false

/-- every kid lies before its node -/
def KidsLow (l : List PNode) : Prop := ∀ (i : Nat) (nd : PNode), l[i]? = some nd → ∀ k ∈ nd.kids, 0 ≤ k ∧ k < (i : Int)
theorem backK_mem {st : List Nat} (h : Low st) : ∀ (ks : List Int) (at_ a : Nat), at_ ≤ st.length → backK st ks at_ = some a → ∀ k ∈ ks, 0 ≤ k ∧ k < (at_ : Int)
  | [], _, _, _, _, k, hk => by simp at hk
  | k :: r, at_, a, hl, e, x, hx => by
    rw [backK] at e
    by_cases hc : at_ ≠ 0 ∧ k = (at_ : Int) - 1
    · rw [if_pos hc] at e
      obtain ⟨y, _, h2, h3⟩ := h.get (j := at_ - 1) (by omega)
      rw [h2] at e
      rcases List.mem_cons.1 hx with rfl | hx
      · omega
      · have := backK_mem h r y a (by omega) e x hx
        omega
    · rw [if_neg hc] at e; cases e
theorem startsF_kids : ∀ (l : List PNode) (done s : List Nat), Low done → startsF l done = some s → ∀ (i : Nat) (nd : PNode), l[i]? = some nd → ∀ k ∈ nd.kids, 0 ≤ k ∧ k < ((done.length + i : Nat) : Int)
  | [], _, _, _, _, i, nd, hi => by simp at hi
  | x :: r, done, s, h, e, i, nd, hi => by
    rw [startsF] at e
    cases hb : backK done x.kids.reverse done.length with
    | none => rw [hb] at e; cases e
    | some a =>
      rw [hb] at e
      intro k hk
      cases i with
      | zero =>
        simp at hi
        subst hi
        have := backK_mem h _ _ _ (Nat.le_refl _) hb k (by simpa using hk)
        simpa using this
      | succ i =>
        have hi' : r[i]? = some nd := by simpa using hi
        have := startsF_kids r (done ++ [a]) s (h.snoc (backK_le h _ _ _ (Nat.le_refl _) hb)) e i nd hi' k hk
        simp at this
        omega
theorem startsL_kids {l : List PNode} {s : List Nat} (e : startsL l = some s) : KidsLow l := by
  intro i nd hi k hk
  have := startsF_kids l [] s Low.nil e i nd hi k hk
  simpa using this
theorem shapeB_parts {l : List PNode} (h : shapeB l = true) : 1 ≤ l.length ∧ l.length ≤ 400 ∧ ∃ s, startsL l = some s ∧ s.getD (l.length - 1) 0 = 0 := by
  unfold shapeB sizeOk at h
  simp only [Bool.and_eq_true, decide_eq_true_eq] at h
  obtain ⟨⟨h1, h2⟩, h3⟩ := h
  refine ⟨h1, h2, ?_⟩
  cases hs : startsL l with
  | none => rw [hs] at h3; cases h3
  | some s => rw [hs] at h3; exact ⟨s, rfl, by simpa using h3⟩
/-- the greatest depth among some nodes -/
def maxD (d : List Nat) : List Int → Nat
  | [] => 0
  | k :: r => max (d.getD k.toNat 0) (maxD d r)
def depsF : List PNode → List Nat → List Nat
  | [], d => d
  | nd :: r, d => depsF r (d ++ [maxD d nd.kids + 1])
def depsL (l : List PNode) : List Nat := depsF l []
def depthL (l : List PNode) : Nat := if shapeB l = true then (depsL l).getD (l.length - 1) 0 else 0
theorem maxD_append (d : List Nat) (a b : List Int) : maxD d (a ++ b) = max (maxD d a) (maxD d b) := by
  induction a with
  | nil => simp [maxD]
  | cons x a ih => simp only [List.cons_append, maxD, ih]; omega
theorem maxD_take {d : List Nat} {ks : List Int} {c : Nat} {k : Int} (h : ks[c]? = some k) : maxD d (ks.take (c + 1)) = max (maxD d (ks.take c)) (d.getD k.toNat 0) := by
  rw [List.take_add_one, h, maxD_append]
  simp [maxD]
theorem maxD_more (d e : List Nat) : ∀ ks : List Int, (∀ k ∈ ks, 0 ≤ k ∧ k < (d.length : Int)) → maxD (d ++ e) ks = maxD d ks
  | [], _ => rfl
  | k :: r, h => by
    have h1 := h k (by simp)
    simp only [maxD]
    rw [maxD_more d e r (fun x hx => h x (List.mem_cons_of_mem _ hx))]
    congr 1
    simp only [List.getD_eq_getElem?_getD]
    rw [List.getElem?_append_left (by omega)]
theorem depsF_pre : ∀ (l : List PNode) (d : List Nat), ∃ e, depsF l d = d ++ e ∧ e.length = l.length
  | [], d => ⟨[], by simp [depsF], rfl⟩
  | nd :: r, d => by
    obtain ⟨e, he, hl⟩ := depsF_pre r (d ++ [maxD d nd.kids + 1])
    exact ⟨[maxD d nd.kids + 1] ++ e, by rw [depsF, he]; simp, by simp [hl]⟩
theorem depsF_drop (l : List PNode) (i : Nat) (nd : PNode) (h : l[i]? = some nd) (d : List Nat) : depsF (l.drop i) d = depsF (l.drop (i + 1)) (d ++ [maxD d nd.kids + 1]) := by
  have hi := (List.getElem?_eq_some_iff.1 h).1
  have e : l.drop i = nd :: l.drop (i + 1) := by
    rw [List.drop_eq_getElem_cons hi, (List.getElem?_eq_some_iff.1 h).2]
  rw [e, depsF]
theorem depsF_get : ∀ (l : List PNode) (d : List Nat), (∀ (i : Nat) (nd : PNode), l[i]? = some nd → ∀ k ∈ nd.kids, 0 ≤ k ∧ k < ((d.length + i : Nat) : Int)) → ∀ (i : Nat) (nd : PNode), l[i]? = some nd → (depsF l d)[d.length + i]? = some (maxD (depsF l d) nd.kids + 1)
  | [], _, _, i, nd, hi => by simp at hi
  | x :: r, d, h, i, nd, hi => by
    rw [depsF]
    cases i with
    | zero =>
      simp at hi
      subst hi
      obtain ⟨e, he, _⟩ := depsF_pre r (d ++ [maxD d x.kids + 1])
      rw [he, List.append_assoc, maxD_more d _ x.kids (fun k hk => by have := h 0 x rfl k hk; simpa using this)]
      simp
    | succ i =>
      have hi' : r[i]? = some nd := by simpa using hi
      have := depsF_get r (d ++ [maxD d x.kids + 1]) (fun j y hj k hk => by have := h (j + 1) y (by simpa using hj) k hk; simp; omega) i nd hi'
      have e : (d ++ [maxD d x.kids + 1]).length + i = d.length + (i + 1) := by simp; omega
      rw [e] at this
      exact this
theorem depsL_get {l : List PNode} (h : KidsLow l) {i : Nat} {nd : PNode} (hi : l[i]? = some nd) : (depsL l)[i]? = some (maxD (depsL l) nd.kids + 1) := by
  have := depsF_get l [] (fun j y hj k hk => by have := h j y hj k hk; simpa using this) i nd hi
  simpa [depsL] using this
theorem depsF_le : ∀ (l : List PNode) (d : List Nat), (∀ (j x : Nat), d[j]? = some x → x ≤ j + 1) → ∀ (j x : Nat), (depsF l d)[j]? = some x → x ≤ j + 1
  | [], d, h => h
  | nd :: r, d, h => by
    rw [depsF]
    refine depsF_le r _ ?_
    intro j x hx
    by_cases hj : j < d.length
    · rw [List.getElem?_append_left hj] at hx; exact h j x hx
    · rw [List.getElem?_append_right (by omega)] at hx
      have hj0 : j - d.length = 0 := by
        by_cases e : j - d.length = 0
        · exact e
        · rw [List.getElem?_eq_none (by simp; omega)] at hx; cases hx
      rw [hj0] at hx
      simp at hx
      have : maxD d nd.kids ≤ d.length := by
        generalize nd.kids = ks
        induction ks with
        | nil => simp [maxD]
        | cons k r ih =>
          simp only [maxD]
          have h2 : d.getD k.toNat 0 ≤ d.length := by
            by_cases hk : k.toNat < d.length
            · rw [List.getD_eq_getElem?_getD, List.getElem?_eq_getElem hk]
              have := h k.toNat _ (List.getElem?_eq_getElem hk)
              simp only [Option.getD_some]
              omega
            · rw [List.getD_eq_getElem?_getD, List.getElem?_eq_none (by omega)]; simp
          omega
      omega
theorem depsL_le {l : List PNode} {j x : Nat} (h : (depsL l)[j]? = some x) : x ≤ j + 1 := depsF_le l [] (fun j x h => by simp at h) j x h
theorem depsL_len (l : List PNode) : (depsL l).length = l.length := by
  obtain ⟨e, he, hl⟩ := depsF_pre l []
  unfold depsL
  rw [he]
  simpa using hl
end Go.Proofs.YtnidfoboiddhfaaDoor
