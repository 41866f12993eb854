/- What the small functions on integers return (contracts): the reference's and the program's alike. -/
import Derived.Test.YtdajhcammnlonaaDoorChecked
import Derived.Test.YtdajhcammnlonaaDoorPure
namespace Go.Proofs.YtdajhcammnlonaaDoor
open Go.RowKit

theorem s_l1In (x lo hi : Int) (w : World) : Calls Tryd.prog 58 #[.int .i64 x, .int .i64 lo, .int .i64 hi] w fun e w' => e = .returned (.bool (inB x lo hi)) ∧ w = w' := by
  go_enter Tryd.func58, Tryd.ntmps58
  go_wp2
  all_goals (go_ret; refine ⟨ret_bool ?_, rfl⟩; rw [Bool.eq_iff_iff]; simp [inB]; try omega)
theorem i_within (x lo hi : Int) (w : World) : Calls Tryd.prog 62 #[.int .i64 x, .int .i64 lo, .int .i64 hi] w fun e w' => e = .returned (.bool (inB x lo hi)) ∧ w = w' := by
  go_enter Tryd.func62, Tryd.ntmps62
  go_wp2
  all_goals (go_ret; refine ⟨ret_bool ?_, rfl⟩; rw [Bool.eq_iff_iff]; simp [inB]; try omega)
theorem s_isBlank (x : Int) (w : World) : Calls Tryd.prog 107 #[.int .i64 x] w fun e w' => e = .returned (.bool (isBlankB x)) ∧ w = w' := by
  go_enter Tryd.func107, Tryd.ntmps107
  go_wp2
  all_goals (go_ret; refine ⟨ret_bool ?_, rfl⟩; simp_all [isBlankB])
theorem i_isBlank (x : Int) (w : World) : Calls Tryd.prog 126 #[.int .i64 x] w fun e w' => e = .returned (.bool (isBlankB x)) ∧ w = w' := by
  go_enter Tryd.func126, Tryd.ntmps126
  go_wp2
  all_goals (go_ret; refine ⟨ret_bool ?_, rfl⟩; simp_all [isBlankB])
theorem s_isDigit (x : Int) (w : World) : Calls Tryd.prog 116 #[.int .i64 x] w fun e w' => e = .returned (.bool (isDigitB x)) ∧ w = w' := by
  go_enter Tryd.func116, Tryd.ntmps116
  go_wp2_with (go_at_call 58; refine (s_l1In _ _ _ _).mono ?_; rintro e w' ⟨rfl, rfl⟩)
  go_ret
  exact ⟨rfl, rfl⟩
theorem i_isDigit (x : Int) (w : World) : Calls Tryd.prog 113 #[.int .i64 x] w fun e w' => e = .returned (.bool (isDigitB x)) ∧ w = w' := by
  go_enter Tryd.func113, Tryd.ntmps113
  go_wp2
  all_goals (go_ret; refine ⟨ret_bool ?_, rfl⟩; rw [Bool.eq_iff_iff]; simp [isDigitB, inB]; try omega)
theorem s_isLetter (x : Int) (w : World) : Calls Tryd.prog 30 #[.int .i64 x] w fun e w' => e = .returned (.bool (isLetterB x)) ∧ w = w' := by
  by_cases h1 : inB x 97 122 = true
  · go_enter Tryd.func30, Tryd.ntmps30
    go_wp2_with (go_at_call 58; refine (s_l1In _ _ _ _).mono ?_; rintro e w' ⟨rfl, rfl⟩)
    all_goals (go_ret; refine ⟨ret_bool ?_, rfl⟩; simp_all [isLetterB])
  · rw [Bool.not_eq_true] at h1
    by_cases h2 : inB x 65 90 = true
    · go_enter Tryd.func30, Tryd.ntmps30
      go_wp2_with (go_at_call 58; refine (s_l1In _ _ _ _).mono ?_; rintro e w' ⟨rfl, rfl⟩)
      all_goals (go_ret; refine ⟨ret_bool ?_, rfl⟩; simp_all [isLetterB])
    · rw [Bool.not_eq_true] at h2
      go_enter Tryd.func30, Tryd.ntmps30
      go_wp2_with (go_at_call 58; refine (s_l1In _ _ _ _).mono ?_; rintro e w' ⟨rfl, rfl⟩)
      all_goals (go_ret; refine ⟨ret_bool ?_, rfl⟩; simp_all [isLetterB])
theorem i_isLetter (x : Int) (w : World) : Calls Tryd.prog 69 #[.int .i64 x] w fun e w' => e = .returned (.bool (isLetterB x)) ∧ w = w' := by
  go_enter Tryd.func69, Tryd.ntmps69
  go_wp2
  all_goals (go_ret; refine ⟨ret_bool ?_, rfl⟩; rw [Bool.eq_iff_iff]; simp [isLetterB, inB]; try omega)
theorem s_isWord (x : Int) (w : World) : Calls Tryd.prog 87 #[.int .i64 x] w fun e w' => e = .returned (.bool (isWordB x)) ∧ w = w' := by
  go_enter Tryd.func87, Tryd.ntmps87
  go_wp2_with (first | (go_at_call 30; refine (s_isLetter _ _).mono ?_; rintro e w' ⟨rfl, rfl⟩) | (go_at_call 116; refine (s_isDigit _ _).mono ?_; rintro e w' ⟨rfl, rfl⟩))
  all_goals (go_ret; refine ⟨ret_bool ?_, rfl⟩; simp_all [isWordB])
theorem i_isWord (x : Int) (w : World) : Calls Tryd.prog 68 #[.int .i64 x] w fun e w' => e = .returned (.bool (isWordB x)) ∧ w = w' := by
  go_enter Tryd.func68, Tryd.ntmps68
  go_wp2_with (first | (go_at_call 69; refine (i_isLetter _ _).mono ?_; rintro e w' ⟨rfl, rfl⟩) | (go_at_call 113; refine (i_isDigit _ _).mono ?_; rintro e w' ⟨rfl, rfl⟩))
  all_goals (go_ret; refine ⟨ret_bool ?_, rfl⟩; simp_all [isWordB])
theorem s_ends (x : Int) (w : World) : Calls Tryd.prog 101 #[.int .i64 x] w fun e w' => e = .returned (.bool (endsB x)) ∧ w = w' := by
  go_enter Tryd.func101, Tryd.ntmps101
  go_wp2
  all_goals (go_ret; refine ⟨ret_bool ?_, rfl⟩; simp_all [endsB])
theorem i_ends (x : Int) (w : World) : Calls Tryd.prog 105 #[.int .i64 x] w fun e w' => e = .returned (.bool (endsB x)) ∧ w = w' := by
  go_enter Tryd.func105, Tryd.ntmps105
  go_wp2
  all_goals (go_ret; refine ⟨ret_bool ?_, rfl⟩; simp_all [endsB])
end Go.Proofs.YtdajhcammnlonaaDoor
