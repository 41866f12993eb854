/- What the small functions on integers return (contracts): the reference's and the program's alike. -/
import Derived.Test.YtlabmboedjnpmaaChecked
import Derived.Test.YtlabmboedjnpmaaPure
namespace Go.Proofs.Ytlabmboedjnpmaa
open Go.RowKit

theorem s_l1In (x lo hi : Int) (w : World) : Calls Try.prog 25 #[.int .i64 x, .int .i64 lo, .int .i64 hi] w fun e w' => e = .returned (.bool (inB x lo hi)) ∧ w = w' := by
  go_enter Try.func25, Try.ntmps25
  go_wp2
  all_goals (go_ret; refine ⟨ret_bool ?_, rfl⟩; rw [Bool.eq_iff_iff]; simp [inB]; try omega)
theorem i_within (x lo hi : Int) (w : World) : Calls Try.prog 21 #[.int .i64 x, .int .i64 lo, .int .i64 hi] w fun e w' => e = .returned (.bool (inB x lo hi)) ∧ w = w' := by
  go_enter Try.func21, Try.ntmps21
  go_wp2
  all_goals (go_ret; refine ⟨ret_bool ?_, rfl⟩; rw [Bool.eq_iff_iff]; simp [inB]; try omega)
theorem s_opLevel (x : Int) (w : World) : Calls Try.prog 28 #[.int .i64 x] w fun e w' => e = .returned (.int .i64 (opLevel x)) ∧ w = w' := by
  go_enter Try.func28, Try.ntmps28
  go_wp2
  all_goals (go_ret; refine ⟨ret_int ?_, rfl⟩; simp_all [opLevel])
theorem i_opLevel (x : Int) (w : World) : Calls Try.prog 22 #[.int .i64 x] w fun e w' => e = .returned (.int .i64 (opLevel x)) ∧ w = w' := by
  go_enter Try.func22, Try.ntmps22
  go_wp2
  all_goals (go_ret; refine ⟨ret_int ?_, rfl⟩; simp_all [opLevel])
end Go.Proofs.Ytlabmboedjnpmaa
