/- What a drawn tree looks like, as far as the laws ask. No program is in sight here. -/
import Derived.Test.YtlabmboedjnpmaaData
namespace Go.Proofs.Ytlabmboedjnpmaa
open Go.RowKit
set_option linter.unusedVariables false

/-- a node of a drawn list of N nodes -/
structure GoodN (N : Nat) (nd : PNode) : Prop where
  kind : 0 ≤ nd.kind ∧ nd.kind ≤ 100
  op : 0 ≤ nd.op ∧ nd.op ≤ 200
  text : nd.text.size ≤ 16
  other : nd.other.size ≤ 16
  two : nd.kind = 12 → nd.kids.length ≤ 2
  few : nd.kids.length ≤ 8
  kids : ∀ k ∈ nd.kids, -1 ≤ k ∧ k < (N : Int)
def GoodT (l : List PNode) : Prop := ∀ nd ∈ l, GoodN l.length nd
theorem GoodN.more {N M : Nat} {nd : PNode} (h : GoodN N nd) (hM : N ≤ M) : GoodN M nd := ⟨h.kind, h.op, h.text, h.other, h.two, h.few, fun k hk => by have := h.kids k hk; omega⟩
theorem GoodN.shift {N M d : Nat} {nd : PNode} (h : GoodN N nd) (hM : N + d ≤ M) : GoodN M { nd with kids := nd.kids.map fun k => k + (d : Int) } := by
  refine ⟨h.kind, h.op, h.text, h.other, fun e => by show (nd.kids.map _).length ≤ 2; rw [List.length_map]; exact h.two e, by show (nd.kids.map _).length ≤ 8; rw [List.length_map]; exact h.few, fun k hk => ?_⟩
  obtain ⟨x, hx, rfl⟩ := List.mem_map.1 hk
  have := h.kids x hx
  omega
theorem GoodN.okN {N : Nat} {nd : PNode} (h : GoodN N nd) (hN : N ≤ 1048576) : (okInt nd.kind ∧ okInt nd.op ∧ nd.text.size ≤ maxLen ∧ nd.other.size ≤ maxLen) ∧ ∀ k ∈ nd.kids, okInt k := by
  have h1 := h.kind
  have h2 := h.op
  have h3 := h.text
  have h4 := h.other
  refine ⟨⟨?_, ?_, ?_, ?_⟩, fun k hk => ?_⟩
  · unfold okInt; omega
  · unfold okInt; omega
  · unfold maxLen; omega
  · unfold maxLen; omega
  · have := h.kids k hk
    unfold okInt
    omega
theorem GoodN.small {N : Nat} {nd : PNode} (h : GoodN N nd) (hN : N ≤ 1048576) : nd.kids.length ≤ 1048576 ∧ ∀ k ∈ nd.kids, -4294967296 ≤ k ∧ k ≤ 4294967296 :=
  ⟨by have := h.few; omega, fun k hk => by have := h.kids k hk; omega⟩
theorem GoodT.nil : GoodT [] := fun nd h => (List.not_mem_nil h).elim
/-- one node without kids -/
theorem GoodT.one {k o : Int} {t u : ByteArray} (hk : 0 ≤ k ∧ k ≤ 100) (ho : 0 ≤ o ∧ o ≤ 200) (ht : t.size ≤ 16) (hu : u.size ≤ 16) : GoodT [⟨k, o, t, u, []⟩] := fun nd h => by
  obtain rfl := List.mem_singleton.1 h
  exact ⟨hk, ho, ht, hu, fun _ => Nat.zero_le _, Nat.zero_le _, fun k hk => (List.not_mem_nil hk).elim⟩
/-- how many nodes the parts have together -/
def sumLen : List (Value × List PNode) → Nat
  | [] => 0
  | p :: r => p.2.length + sumLen r
theorem sumLen_append (a b : List (Value × List PNode)) : sumLen (a ++ b) = sumLen a + sumLen b := by
  induction a with
  | nil => simp [sumLen]
  | cons x a ih => simp only [List.cons_append, sumLen, ih]; omega
theorem sumLen_take {l : List (Value × List PNode)} {j : Nat} {p : Value × List PNode} (h : l[j]? = some p) : sumLen (l.take (j + 1)) = sumLen (l.take j) + p.2.length := by
  rw [List.take_add_one, h, sumLen_append]
  simp [sumLen]
theorem sumLen_take_le (l : List (Value × List PNode)) (j : Nat) : sumLen (l.take j) ≤ sumLen l := by
  have := sumLen_append (l.take j) (l.drop j)
  rw [List.take_append_drop] at this
  omega
end Go.Proofs.Ytlabmboedjnpmaa
