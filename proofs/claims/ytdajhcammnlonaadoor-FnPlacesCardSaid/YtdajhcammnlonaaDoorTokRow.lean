/- Tokens in a block: three cells each. -/
import Derived.Test.YtdajhcammnlonaaDoorMem
import Derived.Test.YtdajhcammnlonaaDoorData
import Derived.Test.YtdajhcammnlonaaDoorChars
import Derived.OwnWalk
namespace Go.Proofs.YtdajhcammnlonaaDoor
open Go.RowKit
set_option linter.unusedVariables false
/-- the first j tokens stand in the cells -/
def FilledT (cs : Array Value) (j : Nat) (l : List PTok) : Prop :=
  ∀ i t, i < j → l[i]? = some t → cs[i * 3]? = some (.int .i64 t.kind) ∧ cs[i * 3 + 1]? = some (.string t.text) ∧ cs[i * 3 + 2]? = some (.int .i64 t.at_)
def put3 (cs : Array Value) (m : Nat) (a b c : Value) : Array Value := ((cs.setIfInBounds m a).setIfInBounds (m + 1) b).setIfInBounds (m + 2) c
theorem put3_size (cs : Array Value) (m : Nat) (a b c : Value) : (put3 cs m a b c).size = cs.size := by simp [put3]
theorem put3_other (cs : Array Value) (m : Nat) (a b c : Value) (i : Nat) (h : i < m ∨ m + 2 < i) : (put3 cs m a b c)[i]? = cs[i]? := by
  unfold put3
  rw [Array.getElem?_setIfInBounds_ne (by omega), Array.getElem?_setIfInBounds_ne (by omega), Array.getElem?_setIfInBounds_ne (by omega)]
theorem put3_at (cs : Array Value) (m : Nat) (a b c : Value) (h : m + 2 < cs.size) : (put3 cs m a b c)[m]? = some a ∧ (put3 cs m a b c)[m + 1]? = some b ∧ (put3 cs m a b c)[m + 2]? = some c := by
  unfold put3
  refine ⟨?_, ?_, ?_⟩
  · rw [Array.getElem?_setIfInBounds_ne (by omega), Array.getElem?_setIfInBounds_ne (by omega), Array.getElem?_setIfInBounds_self_of_lt (by first | omega | (simp; omega))]
  · rw [Array.getElem?_setIfInBounds_ne (by omega), Array.getElem?_setIfInBounds_self_of_lt (by first | omega | (simp; omega))]
  · rw [Array.getElem?_setIfInBounds_self_of_lt (by first | omega | (simp; omega))]
def set3 (w : World) (g m : Nat) (a b c : Value) : World := ((w.setCell ⟨g, m, none⟩ a).setCell ⟨g, m + 1, none⟩ b).setCell ⟨g, m + 2, none⟩ c
theorem Has.set3 {w : World} {g : Nat} {t : TypeId} {cs : Array Value} (h : Has w g t cs) (m : Nat) (a b c : Value) : Has (Go.Proofs.YtdajhcammnlonaaDoor.set3 w g m a b c) g t (put3 cs m a b c) :=
  ((h.set m a).set (m + 1) b).set (m + 2) c
theorem FilledT.step {cs : Array Value} {j : Nat} {l : List PTok} {t : PTok} (h : FilledT cs j l) (ht : l[j]? = some t) (hs : l.length * 3 = cs.size) : FilledT (put3 cs (j * 3) (.int .i64 t.kind) (.string t.text) (.int .i64 t.at_)) (j + 1) l := by
  have hj := (List.getElem?_eq_some_iff.1 ht).1
  intro i x hi hx
  by_cases e : i = j
  · subst e
    obtain rfl := Option.some.inj (ht.symm.trans hx)
    exact put3_at cs (i * 3) _ _ _ (by omega)
  · obtain ⟨e0, e1, e2⟩ := h i x (by omega) hx
    refine ⟨?_, ?_, ?_⟩
    · rw [put3_other _ _ _ _ _ _ (by omega)]; exact e0
    · rw [put3_other _ _ _ _ _ _ (by omega)]; exact e1
    · rw [put3_other _ _ _ _ _ _ (by omega)]; exact e2
theorem below_set3 {B : Nat} {w w' : World} (h : Below B w w') {g : Nat} (hg : B ≤ g) (m : Nat) (a b c : Value) : Below B w (set3 w' g m a b c) :=
  ((h.setCell hg _).setCell hg _).setCell hg _
theorem info_tok : (Tryd.prog.info? 36).map (fun i => (i.zero, i.size, i.bytes)) = some (some (.agg #[.int .i64 0, .string ⟨#[]⟩, .int .i64 0]), 3, 32) := by kernel_rfl
end Go.Proofs.YtdajhcammnlonaaDoor
