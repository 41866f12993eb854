/- ShapeOk, StartOf of the program, and the walks of their laws. -/
import Derived.Test.YtnidfoboiddhfaaDoorShapeI
import Derived.Test.YtnidfoboiddhfaaDoorLawsKind
namespace Go.Proofs.YtnidfoboiddhfaaDoor
open Go.RowKit
set_option linter.unusedVariables false

set_option maxRecDepth 100000 in
set_option maxHeartbeats 1000000 in
theorem i_shapeOk (v : Value) (l : List PNode) (w : World) (h : NodesIn w w.heap.size v l) : Calls Tryd.prog 62 #[v] w (RetBool w (shapeB l)) := by
  have g := Lib.hid h
  obtain ⟨A, c, rfl, hlc, hcm, r⟩ := h
  clear r
  unfold maxLen at hcm
  go_enter Tryd.func62, Tryd.ntmps62
  go_wp2_with (go_at_call 91; refine (i_startsOf _ l _ g.out).mono ?_; rintro e w1 ⟨v', rfl, _, _, hb⟩)
  go_ret
  exact ⟨rfl, hb⟩
end Go.Proofs.YtnidfoboiddhfaaDoor
