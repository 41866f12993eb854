/- The functions of the laws over one token (contracts). -/
import Derived.Test.YtnidfoboiddhfaaDoorChars
import Derived.Test.YtnidfoboiddhfaaDoorMem
import Derived.Test.YtnidfoboiddhfaaDoorData
namespace Go.Proofs.YtnidfoboiddhfaaDoor
open Go.RowKit
set_option linter.unusedVariables false

theorem l_szToken (k : Int) (t : ByteArray) (p : Int) (left : Int) (w : World) (h0 : 0 ≤ left) (h1 : left ≤ 1048576) (ht : t.size ≤ maxLen) :
    Calls Tryd.prog 20 #[.agg #[.int .i64 k, .string t, .int .i64 p], .int .i64 left] w fun e w' => e = .returned (.int .i64 (subB left t.size)) ∧ Below w.heap.size w w' := by
  unfold maxLen at ht
  by_cases c1 : left < t.size
  · have hs : Hid (subB left t.size = -1) := by show _ = _; rw [subB, if_pos (by omega)]
    go_enter Tryd.func20, Tryd.ntmps20
    go_wp2_with fail
    go_ret
    exact ⟨ret_int hs.out.symm, (Below.refl _ _).alloc (Nat.le_refl _) _⟩
  · have hs : Hid (subB left t.size = left - t.size) := by show _ = _; rw [subB, if_neg (by omega)]
    go_enter Tryd.func20, Tryd.ntmps20
    go_wp2_with fail
    go_ret
    exact ⟨ret_int hs.out.symm, (Below.refl _ _).alloc (Nat.le_refl _) _⟩
theorem l_toToken (k : Int) (t : ByteArray) (p : Int) (w : World) :
    Calls Tryd.prog 22 #[.agg #[.int .i64 k, .string t, .int .i64 p]] w fun e w' => e = .returned (.agg #[.int .i64 k, .string t, .int .i64 p]) ∧ Below w.heap.size w w' := by
  go_enter Tryd.func22, Tryd.ntmps22
  go_wp2_with fail
  refine bodyPost_ret (v := .agg #[.int .i64 k, .string t, .int .i64 p]) (by simp [results, Tryd.results22, go_sem]) rfl ⟨rfl, ?_⟩
  repeat (first | exact Below.refl _ _ | refine Below.alloc ?_ (by simp; try omega) _ | refine Below.setCell ?_ (by simp; try omega) _)
end Go.Proofs.YtnidfoboiddhfaaDoor
