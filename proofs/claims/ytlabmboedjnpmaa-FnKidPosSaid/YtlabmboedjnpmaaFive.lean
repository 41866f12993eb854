/- Five cells of a block. No program is in sight here. -/
import Derived.Test.YtlabmboedjnpmaaMem
namespace Go.Proofs.Ytlabmboedjnpmaa
open Go.RowKit
def Five (W : World) (g : Nat) (a b c d e : Value) : Prop := W.cell? ⟨g, 0, none⟩ = some a ∧ W.cell? ⟨g, 1, none⟩ = some b ∧ W.cell? ⟨g, 2, none⟩ = some c ∧ W.cell? ⟨g, 3, none⟩ = some d ∧ W.cell? ⟨g, 4, none⟩ = some e
theorem Five.keep {W W' : World} {B g : Nat} {a b c d e : Value} (h : Five W g a b c d e) (hb : Below B W W') (hg : g < B) : Five W' g a b c d e := by
  have k : ∀ o, W'.cell? ⟨g, o, none⟩ = W.cell? ⟨g, o, none⟩ := fun o => hb.cell (p := ⟨g, o, none⟩) hg
  unfold Five
  simp only [k]
  exact h
theorem Five.made (W : World) (a b c d e : Value) (t : TypeId) : Five (W.alloc (.cells #[a, b, c, d, e] t)) W.heap.size a b c d e :=
  ⟨(Has.made W t _).get rfl, (Has.made W t _).get rfl, (Has.made W t _).get rfl, (Has.made W t _).get rfl, (Has.made W t _).get rfl⟩
end Go.Proofs.Ytlabmboedjnpmaa
