/- What the small functions on integers return (contracts): the reference's and the program's alike. -/
import Derived.Test.YtnidfoboiddhfaaDoorChecked
import Derived.Test.YtnidfoboiddhfaaDoorPure
namespace Go.Proofs.YtnidfoboiddhfaaDoor
open Go.RowKit

theorem s_l1In (x lo hi : Int) (w : World) : Calls Tryd.prog 47 #[.int .i64 x, .int .i64 lo, .int .i64 hi] w fun e w' => e = .returned (.bool (inB x lo hi)) ∧ w = w' := by
  go_enter Tryd.func47, Tryd.ntmps47
  go_wp2
  all_goals (go_ret; refine ⟨ret_bool ?_, rfl⟩; rw [Bool.eq_iff_iff]; simp [inB]; try omega)
theorem i_within (x lo hi : Int) (w : World) : Calls Tryd.prog 44 #[.int .i64 x, .int .i64 lo, .int .i64 hi] w fun e w' => e = .returned (.bool (inB x lo hi)) ∧ w = w' := by
  go_enter Tryd.func44, Tryd.ntmps44
  go_wp2
  all_goals (go_ret; refine ⟨ret_bool ?_, rfl⟩; rw [Bool.eq_iff_iff]; simp [inB]; try omega)
theorem s_isBlank (x : Int) (w : World) : Calls Tryd.prog 52 #[.int .i64 x] w fun e w' => e = .returned (.bool (isBlankB x)) ∧ w = w' := by
  go_enter Tryd.func52, Tryd.ntmps52
  go_wp2
  all_goals (go_ret; refine ⟨ret_bool ?_, rfl⟩; simp_all [isBlankB])
theorem i_isBlank (x : Int) (w : World) : Calls Tryd.prog 82 #[.int .i64 x] w fun e w' => e = .returned (.bool (isBlankB x)) ∧ w = w' := by
  go_enter Tryd.func82, Tryd.ntmps82
  go_wp2
  all_goals (go_ret; refine ⟨ret_bool ?_, rfl⟩; simp_all [isBlankB])
theorem s_isDigit (x : Int) (w : World) : Calls Tryd.prog 72 #[.int .i64 x] w fun e w' => e = .returned (.bool (isDigitB x)) ∧ w = w' := by
  go_enter Tryd.func72, Tryd.ntmps72
  go_wp2_with (go_at_call 47; refine (s_l1In _ _ _ _).mono ?_; rintro e w' ⟨rfl, rfl⟩)
  go_ret
  exact ⟨rfl, rfl⟩
theorem i_isDigit (x : Int) (w : World) : Calls Tryd.prog 74 #[.int .i64 x] w fun e w' => e = .returned (.bool (isDigitB x)) ∧ w = w' := by
  go_enter Tryd.func74, Tryd.ntmps74
  go_wp2
  all_goals (go_ret; refine ⟨ret_bool ?_, rfl⟩; rw [Bool.eq_iff_iff]; simp [isDigitB, inB]; try omega)
theorem s_isLetter (x : Int) (w : World) : Calls Tryd.prog 71 #[.int .i64 x] w fun e w' => e = .returned (.bool (isLetterB x)) ∧ w = w' := by
  by_cases h1 : inB x 97 122 = true
  · go_enter Tryd.func71, Tryd.ntmps71
    go_wp2_with (go_at_call 47; refine (s_l1In _ _ _ _).mono ?_; rintro e w' ⟨rfl, rfl⟩)
    all_goals (go_ret; refine ⟨ret_bool ?_, rfl⟩; simp_all [isLetterB])
  · rw [Bool.not_eq_true] at h1
    by_cases h2 : inB x 65 90 = true
    · go_enter Tryd.func71, Tryd.ntmps71
      go_wp2_with (go_at_call 47; refine (s_l1In _ _ _ _).mono ?_; rintro e w' ⟨rfl, rfl⟩)
      all_goals (go_ret; refine ⟨ret_bool ?_, rfl⟩; simp_all [isLetterB])
    · rw [Bool.not_eq_true] at h2
      go_enter Tryd.func71, Tryd.ntmps71
      go_wp2_with (go_at_call 47; refine (s_l1In _ _ _ _).mono ?_; rintro e w' ⟨rfl, rfl⟩)
      all_goals (go_ret; refine ⟨ret_bool ?_, rfl⟩; simp_all [isLetterB])
theorem i_isLetter (x : Int) (w : World) : Calls Tryd.prog 73 #[.int .i64 x] w fun e w' => e = .returned (.bool (isLetterB x)) ∧ w = w' := by
  go_enter Tryd.func73, Tryd.ntmps73
  go_wp2
  all_goals (go_ret; refine ⟨ret_bool ?_, rfl⟩; rw [Bool.eq_iff_iff]; simp [isLetterB, inB]; try omega)
theorem s_isWord (x : Int) (w : World) : Calls Tryd.prog 46 #[.int .i64 x] w fun e w' => e = .returned (.bool (isWordB x)) ∧ w = w' := by
  go_enter Tryd.func46, Tryd.ntmps46
  go_wp2_with (first | (go_at_call 71; refine (s_isLetter _ _).mono ?_; rintro e w' ⟨rfl, rfl⟩) | (go_at_call 72; refine (s_isDigit _ _).mono ?_; rintro e w' ⟨rfl, rfl⟩))
  all_goals (go_ret; refine ⟨ret_bool ?_, rfl⟩; simp_all [isWordB])
theorem i_isWord (x : Int) (w : World) : Calls Tryd.prog 48 #[.int .i64 x] w fun e w' => e = .returned (.bool (isWordB x)) ∧ w = w' := by
  go_enter Tryd.func48, Tryd.ntmps48
  go_wp2_with (first | (go_at_call 73; refine (i_isLetter _ _).mono ?_; rintro e w' ⟨rfl, rfl⟩) | (go_at_call 74; refine (i_isDigit _ _).mono ?_; rintro e w' ⟨rfl, rfl⟩))
  all_goals (go_ret; refine ⟨ret_bool ?_, rfl⟩; simp_all [isWordB])
theorem s_isLvalue (x : Int) (w : World) : Calls Tryd.prog 89 #[.int .i64 x] w fun e w' => e = .returned (.bool (isLvalueB x)) ∧ w = w' := by
  go_enter Tryd.func89, Tryd.ntmps89
  go_wp2
  all_goals (go_ret; refine ⟨ret_bool ?_, rfl⟩; simp_all [isLvalueB])
theorem i_isLvalue (x : Int) (w : World) : Calls Tryd.prog 96 #[.int .i64 x] w fun e w' => e = .returned (.bool (isLvalueB x)) ∧ w = w' := by
  go_enter Tryd.func96, Tryd.ntmps96
  go_wp2
  all_goals (go_ret; refine ⟨ret_bool ?_, rfl⟩; simp_all [isLvalueB])
theorem s_isExpr (x : Int) (w : World) : Calls Tryd.prog 39 #[.int .i64 x] w fun e w' => e = .returned (.bool (isExprB x)) ∧ w = w' := by
  go_enter Tryd.func39, Tryd.ntmps39
  go_wp2_with (go_at_call 47; refine (s_l1In _ _ _ _).mono ?_; rintro e w' ⟨rfl, rfl⟩)
  go_ret
  exact ⟨rfl, rfl⟩
theorem i_isExpr (x : Int) (w : World) : Calls Tryd.prog 41 #[.int .i64 x] w fun e w' => e = .returned (.bool (isExprB x)) ∧ w = w' := by
  go_enter Tryd.func41, Tryd.ntmps41
  go_wp2_with (go_at_call 44; refine (i_within _ _ _ _).mono ?_; rintro e w' ⟨rfl, rfl⟩)
  go_ret
  exact ⟨rfl, rfl⟩
theorem s_isStmt (x : Int) (w : World) : Calls Tryd.prog 90 #[.int .i64 x] w fun e w' => e = .returned (.bool (isStmtB x)) ∧ w = w' := by
  go_enter Tryd.func90, Tryd.ntmps90
  go_wp2_with (go_at_call 47; refine (s_l1In _ _ _ _).mono ?_; rintro e w' ⟨rfl, rfl⟩)
  go_ret
  exact ⟨rfl, rfl⟩
theorem i_isStmt (x : Int) (w : World) : Calls Tryd.prog 93 #[.int .i64 x] w fun e w' => e = .returned (.bool (isStmtB x)) ∧ w = w' := by
  go_enter Tryd.func93, Tryd.ntmps93
  go_wp2_with (go_at_call 44; refine (i_within _ _ _ _).mono ?_; rintro e w' ⟨rfl, rfl⟩)
  go_ret
  exact ⟨rfl, rfl⟩
theorem s_ends (x : Int) (w : World) : Calls Tryd.prog 55 #[.int .i64 x] w fun e w' => e = .returned (.bool (endsB x)) ∧ w = w' := by
  go_enter Tryd.func55, Tryd.ntmps55
  go_wp2
  all_goals (go_ret; refine ⟨ret_bool ?_, rfl⟩; simp_all [endsB])
theorem i_ends (x : Int) (w : World) : Calls Tryd.prog 107 #[.int .i64 x] w fun e w' => e = .returned (.bool (endsB x)) ∧ w = w' := by
  go_enter Tryd.func107, Tryd.ntmps107
  go_wp2
  all_goals (go_ret; refine ⟨ret_bool ?_, rfl⟩; simp_all [endsB])
theorem i_opLevel (x : Int) (w : World) : Calls Tryd.prog 121 #[.int .i64 x] w fun e w' => e = .returned (.int .i64 (opLevel x)) ∧ w = w' := by
  go_enter Tryd.func121, Tryd.ntmps121
  go_wp2
  all_goals (go_ret; refine ⟨ret_int ?_, rfl⟩; simp_all [opLevel])
end Go.Proofs.YtnidfoboiddhfaaDoor
