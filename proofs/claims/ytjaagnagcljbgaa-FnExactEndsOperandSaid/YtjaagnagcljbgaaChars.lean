/- What the small functions on integers return (contracts): the reference's and the program's alike. -/
import Derived.Test.YtjaagnagcljbgaaChecked
import Derived.Test.YtjaagnagcljbgaaPure
namespace Go.Proofs.Ytjaagnagcljbgaa
open Go.RowKit

theorem s_l1In (x lo hi : Int) (w : World) : Calls Try.prog 34 #[.int .i64 x, .int .i64 lo, .int .i64 hi] w fun e w' => e = .returned (.bool (inB x lo hi)) ∧ w = w' := by
  go_enter Try.func34, Try.ntmps34
  go_wp2
  all_goals (go_ret; refine ⟨ret_bool ?_, rfl⟩; rw [Bool.eq_iff_iff]; simp [inB]; try omega)
theorem i_within (x lo hi : Int) (w : World) : Calls Try.prog 35 #[.int .i64 x, .int .i64 lo, .int .i64 hi] w fun e w' => e = .returned (.bool (inB x lo hi)) ∧ w = w' := by
  go_enter Try.func35, Try.ntmps35
  go_wp2
  all_goals (go_ret; refine ⟨ret_bool ?_, rfl⟩; rw [Bool.eq_iff_iff]; simp [inB]; try omega)
theorem s_isBlank (x : Int) (w : World) : Calls Try.prog 14 #[.int .i64 x] w fun e w' => e = .returned (.bool (isBlankB x)) ∧ w = w' := by
  go_enter Try.func14, Try.ntmps14
  go_wp2
  all_goals (go_ret; refine ⟨ret_bool ?_, rfl⟩; simp_all [isBlankB])
theorem i_isBlank (x : Int) (w : World) : Calls Try.prog 15 #[.int .i64 x] w fun e w' => e = .returned (.bool (isBlankB x)) ∧ w = w' := by
  go_enter Try.func15, Try.ntmps15
  go_wp2
  all_goals (go_ret; refine ⟨ret_bool ?_, rfl⟩; simp_all [isBlankB])
theorem s_isDigit (x : Int) (w : World) : Calls Try.prog 16 #[.int .i64 x] w fun e w' => e = .returned (.bool (isDigitB x)) ∧ w = w' := by
  go_enter Try.func16, Try.ntmps16
  go_wp2_with (go_at_call 34; refine (s_l1In _ _ _ _).mono ?_; rintro e w' ⟨rfl, rfl⟩)
  go_ret
  exact ⟨rfl, rfl⟩
theorem i_isDigit (x : Int) (w : World) : Calls Try.prog 17 #[.int .i64 x] w fun e w' => e = .returned (.bool (isDigitB x)) ∧ w = w' := by
  go_enter Try.func17, Try.ntmps17
  go_wp2
  all_goals (go_ret; refine ⟨ret_bool ?_, rfl⟩; rw [Bool.eq_iff_iff]; simp [isDigitB, inB]; try omega)
theorem s_isLetter (x : Int) (w : World) : Calls Try.prog 18 #[.int .i64 x] w fun e w' => e = .returned (.bool (isLetterB x)) ∧ w = w' := by
  by_cases h1 : inB x 97 122 = true
  · go_enter Try.func18, Try.ntmps18
    go_wp2_with (go_at_call 34; refine (s_l1In _ _ _ _).mono ?_; rintro e w' ⟨rfl, rfl⟩)
    all_goals (go_ret; refine ⟨ret_bool ?_, rfl⟩; simp_all [isLetterB])
  · rw [Bool.not_eq_true] at h1
    by_cases h2 : inB x 65 90 = true
    · go_enter Try.func18, Try.ntmps18
      go_wp2_with (go_at_call 34; refine (s_l1In _ _ _ _).mono ?_; rintro e w' ⟨rfl, rfl⟩)
      all_goals (go_ret; refine ⟨ret_bool ?_, rfl⟩; simp_all [isLetterB])
    · rw [Bool.not_eq_true] at h2
      go_enter Try.func18, Try.ntmps18
      go_wp2_with (go_at_call 34; refine (s_l1In _ _ _ _).mono ?_; rintro e w' ⟨rfl, rfl⟩)
      all_goals (go_ret; refine ⟨ret_bool ?_, rfl⟩; simp_all [isLetterB])
theorem i_isLetter (x : Int) (w : World) : Calls Try.prog 19 #[.int .i64 x] w fun e w' => e = .returned (.bool (isLetterB x)) ∧ w = w' := by
  go_enter Try.func19, Try.ntmps19
  go_wp2
  all_goals (go_ret; refine ⟨ret_bool ?_, rfl⟩; rw [Bool.eq_iff_iff]; simp [isLetterB, inB]; try omega)
theorem s_isWord (x : Int) (w : World) : Calls Try.prog 26 #[.int .i64 x] w fun e w' => e = .returned (.bool (isWordB x)) ∧ w = w' := by
  go_enter Try.func26, Try.ntmps26
  go_wp2_with (first | (go_at_call 18; refine (s_isLetter _ _).mono ?_; rintro e w' ⟨rfl, rfl⟩) | (go_at_call 16; refine (s_isDigit _ _).mono ?_; rintro e w' ⟨rfl, rfl⟩))
  all_goals (go_ret; refine ⟨ret_bool ?_, rfl⟩; simp_all [isWordB])
theorem i_isWord (x : Int) (w : World) : Calls Try.prog 27 #[.int .i64 x] w fun e w' => e = .returned (.bool (isWordB x)) ∧ w = w' := by
  go_enter Try.func27, Try.ntmps27
  go_wp2_with (first | (go_at_call 19; refine (i_isLetter _ _).mono ?_; rintro e w' ⟨rfl, rfl⟩) | (go_at_call 17; refine (i_isDigit _ _).mono ?_; rintro e w' ⟨rfl, rfl⟩))
  all_goals (go_ret; refine ⟨ret_bool ?_, rfl⟩; simp_all [isWordB])
theorem s_isLvalue (x : Int) (w : World) : Calls Try.prog 20 #[.int .i64 x] w fun e w' => e = .returned (.bool (isLvalueB x)) ∧ w = w' := by
  go_enter Try.func20, Try.ntmps20
  go_wp2
  all_goals (go_ret; refine ⟨ret_bool ?_, rfl⟩; simp_all [isLvalueB])
theorem i_isLvalue (x : Int) (w : World) : Calls Try.prog 21 #[.int .i64 x] w fun e w' => e = .returned (.bool (isLvalueB x)) ∧ w = w' := by
  go_enter Try.func21, Try.ntmps21
  go_wp2
  all_goals (go_ret; refine ⟨ret_bool ?_, rfl⟩; simp_all [isLvalueB])
theorem s_isExpr (x : Int) (w : World) : Calls Try.prog 22 #[.int .i64 x] w fun e w' => e = .returned (.bool (isExprB x)) ∧ w = w' := by
  go_enter Try.func22, Try.ntmps22
  go_wp2_with (go_at_call 34; refine (s_l1In _ _ _ _).mono ?_; rintro e w' ⟨rfl, rfl⟩)
  go_ret
  exact ⟨rfl, rfl⟩
theorem i_isExpr (x : Int) (w : World) : Calls Try.prog 23 #[.int .i64 x] w fun e w' => e = .returned (.bool (isExprB x)) ∧ w = w' := by
  go_enter Try.func23, Try.ntmps23
  go_wp2_with (go_at_call 35; refine (i_within _ _ _ _).mono ?_; rintro e w' ⟨rfl, rfl⟩)
  go_ret
  exact ⟨rfl, rfl⟩
theorem s_isStmt (x : Int) (w : World) : Calls Try.prog 24 #[.int .i64 x] w fun e w' => e = .returned (.bool (isStmtB x)) ∧ w = w' := by
  go_enter Try.func24, Try.ntmps24
  go_wp2_with (go_at_call 34; refine (s_l1In _ _ _ _).mono ?_; rintro e w' ⟨rfl, rfl⟩)
  go_ret
  exact ⟨rfl, rfl⟩
theorem i_isStmt (x : Int) (w : World) : Calls Try.prog 25 #[.int .i64 x] w fun e w' => e = .returned (.bool (isStmtB x)) ∧ w = w' := by
  go_enter Try.func25, Try.ntmps25
  go_wp2_with (go_at_call 35; refine (i_within _ _ _ _).mono ?_; rintro e w' ⟨rfl, rfl⟩)
  go_ret
  exact ⟨rfl, rfl⟩
theorem s_ends (x : Int) (w : World) : Calls Try.prog 30 #[.int .i64 x] w fun e w' => e = .returned (.bool (endsB x)) ∧ w = w' := by
  go_enter Try.func30, Try.ntmps30
  go_wp2
  all_goals (go_ret; refine ⟨ret_bool ?_, rfl⟩; simp_all [endsB])
theorem i_ends (x : Int) (w : World) : Calls Try.prog 31 #[.int .i64 x] w fun e w' => e = .returned (.bool (endsB x)) ∧ w = w' := by
  go_enter Try.func31, Try.ntmps31
  go_wp2
  all_goals (go_ret; refine ⟨ret_bool ?_, rfl⟩; simp_all [endsB])
theorem s_begins (x : Int) (w : World) : Calls Try.prog 28 #[.int .i64 x] w fun e w' => e = .returned (.bool (beginsB x)) ∧ w = w' := by
  go_enter Try.func28, Try.ntmps28
  go_wp2
  all_goals (go_ret; refine ⟨ret_bool ?_, rfl⟩; simp_all [beginsB])
theorem i_begins (x : Int) (w : World) : Calls Try.prog 29 #[.int .i64 x] w fun e w' => e = .returned (.bool (beginsB x)) ∧ w = w' := by
  go_enter Try.func29, Try.ntmps29
  go_wp2
  all_goals (go_ret; refine ⟨ret_bool ?_, rfl⟩; simp_all [beginsB])
theorem faultWord_ix0 (w : World) : (Instr.index 27 (.agg #[.string { data := #[110, 111, 110, 101] }, .string { data := #[108, 97, 114, 103, 101] }, .string { data := #[108, 101, 120] }, .string { data := #[115, 121, 110, 116, 97, 120] }, .string { data := #[100, 101, 101, 112] }]) (.int .i64 0)).run Try.prog w = .ok (.string { data := #[110, 111, 110, 101] }) w := by kernel_rfl
theorem faultWord_ix1 (w : World) : (Instr.index 27 (.agg #[.string { data := #[110, 111, 110, 101] }, .string { data := #[108, 97, 114, 103, 101] }, .string { data := #[108, 101, 120] }, .string { data := #[115, 121, 110, 116, 97, 120] }, .string { data := #[100, 101, 101, 112] }]) (.int .i64 1)).run Try.prog w = .ok (.string { data := #[108, 97, 114, 103, 101] }) w := by kernel_rfl
theorem faultWord_ix2 (w : World) : (Instr.index 27 (.agg #[.string { data := #[110, 111, 110, 101] }, .string { data := #[108, 97, 114, 103, 101] }, .string { data := #[108, 101, 120] }, .string { data := #[115, 121, 110, 116, 97, 120] }, .string { data := #[100, 101, 101, 112] }]) (.int .i64 2)).run Try.prog w = .ok (.string { data := #[108, 101, 120] }) w := by kernel_rfl
theorem faultWord_ix3 (w : World) : (Instr.index 27 (.agg #[.string { data := #[110, 111, 110, 101] }, .string { data := #[108, 97, 114, 103, 101] }, .string { data := #[108, 101, 120] }, .string { data := #[115, 121, 110, 116, 97, 120] }, .string { data := #[100, 101, 101, 112] }]) (.int .i64 3)).run Try.prog w = .ok (.string { data := #[115, 121, 110, 116, 97, 120] }) w := by kernel_rfl
theorem faultWord_ix4 (w : World) : (Instr.index 27 (.agg #[.string { data := #[110, 111, 110, 101] }, .string { data := #[108, 97, 114, 103, 101] }, .string { data := #[108, 101, 120] }, .string { data := #[115, 121, 110, 116, 97, 120] }, .string { data := #[100, 101, 101, 112] }]) (.int .i64 4)).run Try.prog w = .ok (.string { data := #[100, 101, 101, 112] }) w := by kernel_rfl
theorem i_faultWord (k : Int) (w : World) : Calls Try.prog 33 #[.int .i64 k] w fun e w' => e = .returned (.string (faultWord k)) ∧ w = w' := by
  by_cases h : inB k 0 4 = true
  · have hk : k = 0 ∨ k = 1 ∨ k = 2 ∨ k = 3 ∨ k = 4 := by rw [inB_true] at h; omega
    clear h
    have x0 := faultWord_ix0
    have x1 := faultWord_ix1
    have x2 := faultWord_ix2
    have x3 := faultWord_ix3
    have x4 := faultWord_ix4
    rcases hk with rfl | rfl | rfl | rfl | rfl
    all_goals
      go_enter Try.func33, Try.ntmps33
      go_wp2
      go_ret
      exact ⟨ret_str (by decide), rfl⟩
  · rw [Bool.not_eq_true] at h
    go_enter Try.func33, Try.ntmps33
    go_wp2_with (go_at_call 35; refine (i_within _ _ _ _).mono ?_; rintro e w' ⟨rfl, rfl⟩)
    go_ret
    exact ⟨ret_str (by simp [faultWord, h]), rfl⟩
theorem s_faultWord (k : Int) (w : World) : Calls Try.prog 32 #[.int .i64 k] w fun e w' => e = .returned (.string (faultWord k)) ∧ Below w.heap.size w w' := by
  by_cases h : inB k 0 4 = true
  · have hk : k = 0 ∨ k = 1 ∨ k = 2 ∨ k = 3 ∨ k = 4 := by rw [inB_true] at h; omega
    clear h
    rcases hk with rfl | rfl | rfl | rfl | rfl
    all_goals
      go_enter Try.func32, Try.ntmps32
      go_wp2
      go_ret
      exact ⟨ret_str (by decide), (Below.refl _ _).alloc (Nat.le_refl _) _⟩
  · rw [Bool.not_eq_true] at h
    go_enter Try.func32, Try.ntmps32
    go_wp2_with (go_at_call 34; refine (s_l1In _ _ _ _).mono ?_; rintro e w' ⟨rfl, rfl⟩)
    go_ret
    exact ⟨ret_str (by simp [faultWord, h]), Below.refl _ _⟩
end Go.Proofs.Ytjaagnagcljbgaa
