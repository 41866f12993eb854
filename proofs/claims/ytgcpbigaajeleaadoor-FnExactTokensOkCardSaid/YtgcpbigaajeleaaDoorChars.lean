/- What the small functions on integers return (contracts): the reference's and the program's alike. -/
import Derived.Test.YtgcpbigaajeleaaDoorChecked
import Derived.Test.YtgcpbigaajeleaaDoorPure
namespace Go.Proofs.YtgcpbigaajeleaaDoor
open Go.RowKit

theorem s_l1In (x lo hi : Int) (w : World) : Calls Tryd.prog 58 #[.int .i64 x, .int .i64 lo, .int .i64 hi] w fun e w' => e = .returned (.bool (inB x lo hi)) ∧ w = w' := by
  go_enter Tryd.func58, Tryd.ntmps58
  go_wp2
  all_goals (go_ret; refine ⟨ret_bool ?_, rfl⟩; rw [Bool.eq_iff_iff]; simp [inB]; try omega)
theorem i_within (x lo hi : Int) (w : World) : Calls Tryd.prog 95 #[.int .i64 x, .int .i64 lo, .int .i64 hi] w fun e w' => e = .returned (.bool (inB x lo hi)) ∧ w = w' := by
  go_enter Tryd.func95, Tryd.ntmps95
  go_wp2
  all_goals (go_ret; refine ⟨ret_bool ?_, rfl⟩; rw [Bool.eq_iff_iff]; simp [inB]; try omega)
theorem s_isBlank (x : Int) (w : World) : Calls Tryd.prog 82 #[.int .i64 x] w fun e w' => e = .returned (.bool (isBlankB x)) ∧ w = w' := by
  go_enter Tryd.func82, Tryd.ntmps82
  go_wp2
  all_goals (go_ret; refine ⟨ret_bool ?_, rfl⟩; simp_all [isBlankB])
theorem i_isBlank (x : Int) (w : World) : Calls Tryd.prog 119 #[.int .i64 x] w fun e w' => e = .returned (.bool (isBlankB x)) ∧ w = w' := by
  go_enter Tryd.func119, Tryd.ntmps119
  go_wp2
  all_goals (go_ret; refine ⟨ret_bool ?_, rfl⟩; simp_all [isBlankB])
theorem s_isDigit (x : Int) (w : World) : Calls Tryd.prog 115 #[.int .i64 x] w fun e w' => e = .returned (.bool (isDigitB x)) ∧ w = w' := by
  go_enter Tryd.func115, Tryd.ntmps115
  go_wp2_with (go_at_call 58; refine (s_l1In _ _ _ _).mono ?_; rintro e w' ⟨rfl, rfl⟩)
  go_ret
  exact ⟨rfl, rfl⟩
theorem i_isDigit (x : Int) (w : World) : Calls Tryd.prog 129 #[.int .i64 x] w fun e w' => e = .returned (.bool (isDigitB x)) ∧ w = w' := by
  go_enter Tryd.func129, Tryd.ntmps129
  go_wp2
  all_goals (go_ret; refine ⟨ret_bool ?_, rfl⟩; rw [Bool.eq_iff_iff]; simp [isDigitB, inB]; try omega)
theorem s_isLetter (x : Int) (w : World) : Calls Tryd.prog 106 #[.int .i64 x] w fun e w' => e = .returned (.bool (isLetterB x)) ∧ w = w' := by
  by_cases h1 : inB x 97 122 = true
  · go_enter Tryd.func106, Tryd.ntmps106
    go_wp2_with (go_at_call 58; refine (s_l1In _ _ _ _).mono ?_; rintro e w' ⟨rfl, rfl⟩)
    all_goals (go_ret; refine ⟨ret_bool ?_, rfl⟩; simp_all [isLetterB])
  · rw [Bool.not_eq_true] at h1
    by_cases h2 : inB x 65 90 = true
    · go_enter Tryd.func106, Tryd.ntmps106
      go_wp2_with (go_at_call 58; refine (s_l1In _ _ _ _).mono ?_; rintro e w' ⟨rfl, rfl⟩)
      all_goals (go_ret; refine ⟨ret_bool ?_, rfl⟩; simp_all [isLetterB])
    · rw [Bool.not_eq_true] at h2
      go_enter Tryd.func106, Tryd.ntmps106
      go_wp2_with (go_at_call 58; refine (s_l1In _ _ _ _).mono ?_; rintro e w' ⟨rfl, rfl⟩)
      all_goals (go_ret; refine ⟨ret_bool ?_, rfl⟩; simp_all [isLetterB])
theorem i_isLetter (x : Int) (w : World) : Calls Tryd.prog 108 #[.int .i64 x] w fun e w' => e = .returned (.bool (isLetterB x)) ∧ w = w' := by
  go_enter Tryd.func108, Tryd.ntmps108
  go_wp2
  all_goals (go_ret; refine ⟨ret_bool ?_, rfl⟩; rw [Bool.eq_iff_iff]; simp [isLetterB, inB]; try omega)
theorem s_isWord (x : Int) (w : World) : Calls Tryd.prog 105 #[.int .i64 x] w fun e w' => e = .returned (.bool (isWordB x)) ∧ w = w' := by
  go_enter Tryd.func105, Tryd.ntmps105
  go_wp2_with (first | (go_at_call 106; refine (s_isLetter _ _).mono ?_; rintro e w' ⟨rfl, rfl⟩) | (go_at_call 115; refine (s_isDigit _ _).mono ?_; rintro e w' ⟨rfl, rfl⟩))
  all_goals (go_ret; refine ⟨ret_bool ?_, rfl⟩; simp_all [isWordB])
theorem i_isWord (x : Int) (w : World) : Calls Tryd.prog 107 #[.int .i64 x] w fun e w' => e = .returned (.bool (isWordB x)) ∧ w = w' := by
  go_enter Tryd.func107, Tryd.ntmps107
  go_wp2_with (first | (go_at_call 108; refine (i_isLetter _ _).mono ?_; rintro e w' ⟨rfl, rfl⟩) | (go_at_call 129; refine (i_isDigit _ _).mono ?_; rintro e w' ⟨rfl, rfl⟩))
  all_goals (go_ret; refine ⟨ret_bool ?_, rfl⟩; simp_all [isWordB])
theorem s_isLvalue (x : Int) (w : World) : Calls Tryd.prog 123 #[.int .i64 x] w fun e w' => e = .returned (.bool (isLvalueB x)) ∧ w = w' := by
  go_enter Tryd.func123, Tryd.ntmps123
  go_wp2
  all_goals (go_ret; refine ⟨ret_bool ?_, rfl⟩; simp_all [isLvalueB])
theorem i_isLvalue (x : Int) (w : World) : Calls Tryd.prog 126 #[.int .i64 x] w fun e w' => e = .returned (.bool (isLvalueB x)) ∧ w = w' := by
  go_enter Tryd.func126, Tryd.ntmps126
  go_wp2
  all_goals (go_ret; refine ⟨ret_bool ?_, rfl⟩; simp_all [isLvalueB])
theorem s_isExpr (x : Int) (w : World) : Calls Tryd.prog 53 #[.int .i64 x] w fun e w' => e = .returned (.bool (isExprB x)) ∧ w = w' := by
  go_enter Tryd.func53, Tryd.ntmps53
  go_wp2_with (go_at_call 58; refine (s_l1In _ _ _ _).mono ?_; rintro e w' ⟨rfl, rfl⟩)
  go_ret
  exact ⟨rfl, rfl⟩
theorem i_isExpr (x : Int) (w : World) : Calls Tryd.prog 54 #[.int .i64 x] w fun e w' => e = .returned (.bool (isExprB x)) ∧ w = w' := by
  go_enter Tryd.func54, Tryd.ntmps54
  go_wp2_with (go_at_call 95; refine (i_within _ _ _ _).mono ?_; rintro e w' ⟨rfl, rfl⟩)
  go_ret
  exact ⟨rfl, rfl⟩
theorem s_isStmt (x : Int) (w : World) : Calls Tryd.prog 124 #[.int .i64 x] w fun e w' => e = .returned (.bool (isStmtB x)) ∧ w = w' := by
  go_enter Tryd.func124, Tryd.ntmps124
  go_wp2_with (go_at_call 58; refine (s_l1In _ _ _ _).mono ?_; rintro e w' ⟨rfl, rfl⟩)
  go_ret
  exact ⟨rfl, rfl⟩
theorem i_isStmt (x : Int) (w : World) : Calls Tryd.prog 93 #[.int .i64 x] w fun e w' => e = .returned (.bool (isStmtB x)) ∧ w = w' := by
  go_enter Tryd.func93, Tryd.ntmps93
  go_wp2_with (go_at_call 95; refine (i_within _ _ _ _).mono ?_; rintro e w' ⟨rfl, rfl⟩)
  go_ret
  exact ⟨rfl, rfl⟩
theorem s_ends (x : Int) (w : World) : Calls Tryd.prog 79 #[.int .i64 x] w fun e w' => e = .returned (.bool (endsB x)) ∧ w = w' := by
  go_enter Tryd.func79, Tryd.ntmps79
  go_wp2
  all_goals (go_ret; refine ⟨ret_bool ?_, rfl⟩; simp_all [endsB])
theorem i_ends (x : Int) (w : World) : Calls Tryd.prog 80 #[.int .i64 x] w fun e w' => e = .returned (.bool (endsB x)) ∧ w = w' := by
  go_enter Tryd.func80, Tryd.ntmps80
  go_wp2
  all_goals (go_ret; refine ⟨ret_bool ?_, rfl⟩; simp_all [endsB])
theorem s_opLevel (x : Int) (w : World) : Calls Tryd.prog 66 #[.int .i64 x] w fun e w' => e = .returned (.int .i64 (opLevel x)) ∧ w = w' := by
  go_enter Tryd.func66, Tryd.ntmps66
  go_wp2
  all_goals (go_ret; refine ⟨ret_int ?_, rfl⟩; simp_all [opLevel])
theorem i_opLevel (x : Int) (w : World) : Calls Tryd.prog 68 #[.int .i64 x] w fun e w' => e = .returned (.int .i64 (opLevel x)) ∧ w = w' := by
  go_enter Tryd.func68, Tryd.ntmps68
  go_wp2
  all_goals (go_ret; refine ⟨ret_int ?_, rfl⟩; simp_all [opLevel])
end Go.Proofs.YtgcpbigaajeleaaDoor
