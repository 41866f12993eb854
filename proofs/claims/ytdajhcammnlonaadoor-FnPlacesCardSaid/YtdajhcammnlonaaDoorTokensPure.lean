/- Lists of tokens, a token at a time. No program is in sight here. -/
import Derived.Test.YtdajhcammnlonaaDoorLexPure
namespace Go.Proofs.YtdajhcammnlonaaDoor
open Go.RowKit
/-- the kind of the token behind a place, 0 where there is none -/
def nextK (l : List PTok) (j : Nat) : Int := match l[j + 1]? with | none => 0 | some u => u.kind
theorem tokensGo_at {b : Int} {l : List PTok} {j : Nat} {t : PTok} (h : l[j]? = some t) : tokensGo b (l.drop j) = (stands b (nextK l j) t && tokensGo t.kind (l.drop (j + 1))) := by
  have hj := (List.getElem?_eq_some_iff.1 h).1
  have e : l.drop j = t :: l.drop (j + 1) := by rw [List.drop_eq_getElem_cons hj, (List.getElem?_eq_some_iff.1 h).2]
  have e2 : (match l.drop (j + 1) with | [] => (0 : Int) | u :: _ => u.kind) = nextK l j := by
    unfold nextK
    by_cases hn : j + 1 < l.length
    · rw [List.drop_eq_getElem_cons hn, List.getElem?_eq_getElem hn]
    · rw [List.drop_eq_nil_of_le (by omega), List.getElem?_eq_none (by omega)]
  have key : ∀ r : List PTok, tokensGo b (t :: r) = (stands b (match r with | [] => (0 : Int) | u :: _ => u.kind) t && tokensGo t.kind r) := fun r => by
    cases r <;> rfl
  rw [e, key, e2]
theorem tokensGo_end {b : Int} {l : List PTok} {j : Nat} (h : l.length ≤ j) : tokensGo b (l.drop j) = true := by rw [List.drop_eq_nil_of_le h]; rfl
theorem tokenOkB_zero (t : ByteArray) (p : Int) : tokenOkB ⟨0, t, p⟩ = false := by
  by_cases h : t.size = 0
  · simp [tokenOkB, h]
  · have e : spellOf 0 = bs [] := by decide
    have hne : t.data.toList ≠ [] := fun c => h (by rw [← ByteArray.size_data, ← Array.length_toList, c]; rfl)
    simp [tokenOkB, h, e, bs]
    intro c
    exact hne (by rw [c])
theorem tokensGo_zero {b : Int} {l : List PTok} {j : Nat} {t : PTok} (h : l[j]? = some t) (h0 : t.kind = 0) : tokensGo b (l.drop j) = false := by
  rw [tokensGo_at h]
  obtain ⟨k, x, p⟩ := t
  obtain rfl : k = 0 := h0
  simp [stands, tokenOkB_zero]
theorem nextK_at {l : List PTok} {j : Nat} {u : PTok} (h : l[j + 1]? = some u) : nextK l j = u.kind := by unfold nextK; rw [h]
theorem nextK_no {l : List PTok} {j : Nat} (h : l.length ≤ j + 1) : nextK l j = 0 := by unfold nextK; rw [List.getElem?_eq_none (by omega)]
end Go.Proofs.YtdajhcammnlonaaDoor
