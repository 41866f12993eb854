/- KindCount (walks): how many nodes of a kind. -/
import Derived.Test.YtlabmboedjnpmaaNodeEq
namespace Go.Proofs.Ytlabmboedjnpmaa
open Go.RowKit
set_option linter.unusedVariables false

def kcL (k : Int) : List PNode → Nat
  | [] => 0
  | nd :: r => (if nd.kind = k then 1 else 0) + kcL k r
theorem kcL_append (k : Int) (a b : List PNode) : kcL k (a ++ b) = kcL k a + kcL k b := by
  induction a with
  | nil => simp [kcL]
  | cons x a ih => simp only [List.cons_append, kcL, ih]; omega
theorem kcL_take {k : Int} {l : List PNode} {j : Nat} {nd : PNode} (h : l[j]? = some nd) : kcL k (l.take (j + 1)) = kcL k (l.take j) + (if nd.kind = k then 1 else 0) := by
  rw [List.take_add_one, h, kcL_append]
  simp [kcL]
theorem kcL_le (k : Int) (l : List PNode) : kcL k l ≤ l.length := by
  induction l with
  | nil => simp [kcL]
  | cons x a ih => simp only [kcL, List.length_cons]; split <;> omega
def RetInt (w : World) (x : Int) (e : Ending) (w' : World) : Prop := e = .returned (.int .i64 x) ∧ Below w.heap.size w w'
def RetBool (w : World) (x : Bool) (e : Ending) (w' : World) : Prop := e = .returned (.bool x) ∧ Below w.heap.size w w'
end Go.Proofs.Ytlabmboedjnpmaa
