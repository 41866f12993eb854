/- What LevelWord returns, the reference's and the program's. -/
import Derived.Test.YtlabmboedjnpmaaChars
namespace Go.Proofs.Ytlabmboedjnpmaa
open Go.RowKit
theorem levelWord_ix0 (w : World) : (Instr.index 44 (.agg #[.string { data := #[97, 115, 115, 105, 103, 110] }, .string { data := #[99, 111, 110, 100] }, .string { data := #[111, 114] }, .string { data := #[97, 110, 100] }, .string { data := #[105, 110] }, .string { data := #[109, 97, 116, 99, 104] }, .string { data := #[99, 111, 109, 112, 97, 114, 101] }, .string { data := #[99, 97, 116] }, .string { data := #[97, 100, 100] }, .string { data := #[109, 117, 108] }, .string { data := #[117, 110, 97, 114, 121] }, .string { data := #[112, 111, 119] }, .string { data := #[105, 110, 99, 114] }, .string { data := #[102, 105, 101, 108, 100] }, .string { data := #[112, 114, 105, 109, 97, 114, 121] }]) (.int .i64 0)).run Try.prog w = .ok (.string { data := #[97, 115, 115, 105, 103, 110] }) w := by kernel_rfl
theorem i_levelWord0 (w : World) : Calls Try.prog 10 #[.int .i64 1] w fun e w' => e = .returned (.string (levelWord 1)) ∧ w = w' := by
  have x := levelWord_ix0
  go_enter Try.func10, Try.ntmps10
  go_wp2
  go_ret
  exact ⟨ret_str (by decide), rfl⟩
theorem levelWord_ix1 (w : World) : (Instr.index 44 (.agg #[.string { data := #[97, 115, 115, 105, 103, 110] }, .string { data := #[99, 111, 110, 100] }, .string { data := #[111, 114] }, .string { data := #[97, 110, 100] }, .string { data := #[105, 110] }, .string { data := #[109, 97, 116, 99, 104] }, .string { data := #[99, 111, 109, 112, 97, 114, 101] }, .string { data := #[99, 97, 116] }, .string { data := #[97, 100, 100] }, .string { data := #[109, 117, 108] }, .string { data := #[117, 110, 97, 114, 121] }, .string { data := #[112, 111, 119] }, .string { data := #[105, 110, 99, 114] }, .string { data := #[102, 105, 101, 108, 100] }, .string { data := #[112, 114, 105, 109, 97, 114, 121] }]) (.int .i64 1)).run Try.prog w = .ok (.string { data := #[99, 111, 110, 100] }) w := by kernel_rfl
theorem i_levelWord1 (w : World) : Calls Try.prog 10 #[.int .i64 2] w fun e w' => e = .returned (.string (levelWord 2)) ∧ w = w' := by
  have x := levelWord_ix1
  go_enter Try.func10, Try.ntmps10
  go_wp2
  go_ret
  exact ⟨ret_str (by decide), rfl⟩
theorem levelWord_ix2 (w : World) : (Instr.index 44 (.agg #[.string { data := #[97, 115, 115, 105, 103, 110] }, .string { data := #[99, 111, 110, 100] }, .string { data := #[111, 114] }, .string { data := #[97, 110, 100] }, .string { data := #[105, 110] }, .string { data := #[109, 97, 116, 99, 104] }, .string { data := #[99, 111, 109, 112, 97, 114, 101] }, .string { data := #[99, 97, 116] }, .string { data := #[97, 100, 100] }, .string { data := #[109, 117, 108] }, .string { data := #[117, 110, 97, 114, 121] }, .string { data := #[112, 111, 119] }, .string { data := #[105, 110, 99, 114] }, .string { data := #[102, 105, 101, 108, 100] }, .string { data := #[112, 114, 105, 109, 97, 114, 121] }]) (.int .i64 2)).run Try.prog w = .ok (.string { data := #[111, 114] }) w := by kernel_rfl
theorem i_levelWord2 (w : World) : Calls Try.prog 10 #[.int .i64 3] w fun e w' => e = .returned (.string (levelWord 3)) ∧ w = w' := by
  have x := levelWord_ix2
  go_enter Try.func10, Try.ntmps10
  go_wp2
  go_ret
  exact ⟨ret_str (by decide), rfl⟩
theorem levelWord_ix3 (w : World) : (Instr.index 44 (.agg #[.string { data := #[97, 115, 115, 105, 103, 110] }, .string { data := #[99, 111, 110, 100] }, .string { data := #[111, 114] }, .string { data := #[97, 110, 100] }, .string { data := #[105, 110] }, .string { data := #[109, 97, 116, 99, 104] }, .string { data := #[99, 111, 109, 112, 97, 114, 101] }, .string { data := #[99, 97, 116] }, .string { data := #[97, 100, 100] }, .string { data := #[109, 117, 108] }, .string { data := #[117, 110, 97, 114, 121] }, .string { data := #[112, 111, 119] }, .string { data := #[105, 110, 99, 114] }, .string { data := #[102, 105, 101, 108, 100] }, .string { data := #[112, 114, 105, 109, 97, 114, 121] }]) (.int .i64 3)).run Try.prog w = .ok (.string { data := #[97, 110, 100] }) w := by kernel_rfl
theorem i_levelWord3 (w : World) : Calls Try.prog 10 #[.int .i64 4] w fun e w' => e = .returned (.string (levelWord 4)) ∧ w = w' := by
  have x := levelWord_ix3
  go_enter Try.func10, Try.ntmps10
  go_wp2
  go_ret
  exact ⟨ret_str (by decide), rfl⟩
theorem levelWord_ix4 (w : World) : (Instr.index 44 (.agg #[.string { data := #[97, 115, 115, 105, 103, 110] }, .string { data := #[99, 111, 110, 100] }, .string { data := #[111, 114] }, .string { data := #[97, 110, 100] }, .string { data := #[105, 110] }, .string { data := #[109, 97, 116, 99, 104] }, .string { data := #[99, 111, 109, 112, 97, 114, 101] }, .string { data := #[99, 97, 116] }, .string { data := #[97, 100, 100] }, .string { data := #[109, 117, 108] }, .string { data := #[117, 110, 97, 114, 121] }, .string { data := #[112, 111, 119] }, .string { data := #[105, 110, 99, 114] }, .string { data := #[102, 105, 101, 108, 100] }, .string { data := #[112, 114, 105, 109, 97, 114, 121] }]) (.int .i64 4)).run Try.prog w = .ok (.string { data := #[105, 110] }) w := by kernel_rfl
theorem i_levelWord4 (w : World) : Calls Try.prog 10 #[.int .i64 5] w fun e w' => e = .returned (.string (levelWord 5)) ∧ w = w' := by
  have x := levelWord_ix4
  go_enter Try.func10, Try.ntmps10
  go_wp2
  go_ret
  exact ⟨ret_str (by decide), rfl⟩
theorem levelWord_ix5 (w : World) : (Instr.index 44 (.agg #[.string { data := #[97, 115, 115, 105, 103, 110] }, .string { data := #[99, 111, 110, 100] }, .string { data := #[111, 114] }, .string { data := #[97, 110, 100] }, .string { data := #[105, 110] }, .string { data := #[109, 97, 116, 99, 104] }, .string { data := #[99, 111, 109, 112, 97, 114, 101] }, .string { data := #[99, 97, 116] }, .string { data := #[97, 100, 100] }, .string { data := #[109, 117, 108] }, .string { data := #[117, 110, 97, 114, 121] }, .string { data := #[112, 111, 119] }, .string { data := #[105, 110, 99, 114] }, .string { data := #[102, 105, 101, 108, 100] }, .string { data := #[112, 114, 105, 109, 97, 114, 121] }]) (.int .i64 5)).run Try.prog w = .ok (.string { data := #[109, 97, 116, 99, 104] }) w := by kernel_rfl
theorem i_levelWord5 (w : World) : Calls Try.prog 10 #[.int .i64 6] w fun e w' => e = .returned (.string (levelWord 6)) ∧ w = w' := by
  have x := levelWord_ix5
  go_enter Try.func10, Try.ntmps10
  go_wp2
  go_ret
  exact ⟨ret_str (by decide), rfl⟩
theorem levelWord_ix6 (w : World) : (Instr.index 44 (.agg #[.string { data := #[97, 115, 115, 105, 103, 110] }, .string { data := #[99, 111, 110, 100] }, .string { data := #[111, 114] }, .string { data := #[97, 110, 100] }, .string { data := #[105, 110] }, .string { data := #[109, 97, 116, 99, 104] }, .string { data := #[99, 111, 109, 112, 97, 114, 101] }, .string { data := #[99, 97, 116] }, .string { data := #[97, 100, 100] }, .string { data := #[109, 117, 108] }, .string { data := #[117, 110, 97, 114, 121] }, .string { data := #[112, 111, 119] }, .string { data := #[105, 110, 99, 114] }, .string { data := #[102, 105, 101, 108, 100] }, .string { data := #[112, 114, 105, 109, 97, 114, 121] }]) (.int .i64 6)).run Try.prog w = .ok (.string { data := #[99, 111, 109, 112, 97, 114, 101] }) w := by kernel_rfl
theorem i_levelWord6 (w : World) : Calls Try.prog 10 #[.int .i64 7] w fun e w' => e = .returned (.string (levelWord 7)) ∧ w = w' := by
  have x := levelWord_ix6
  go_enter Try.func10, Try.ntmps10
  go_wp2
  go_ret
  exact ⟨ret_str (by decide), rfl⟩
theorem levelWord_ix7 (w : World) : (Instr.index 44 (.agg #[.string { data := #[97, 115, 115, 105, 103, 110] }, .string { data := #[99, 111, 110, 100] }, .string { data := #[111, 114] }, .string { data := #[97, 110, 100] }, .string { data := #[105, 110] }, .string { data := #[109, 97, 116, 99, 104] }, .string { data := #[99, 111, 109, 112, 97, 114, 101] }, .string { data := #[99, 97, 116] }, .string { data := #[97, 100, 100] }, .string { data := #[109, 117, 108] }, .string { data := #[117, 110, 97, 114, 121] }, .string { data := #[112, 111, 119] }, .string { data := #[105, 110, 99, 114] }, .string { data := #[102, 105, 101, 108, 100] }, .string { data := #[112, 114, 105, 109, 97, 114, 121] }]) (.int .i64 7)).run Try.prog w = .ok (.string { data := #[99, 97, 116] }) w := by kernel_rfl
theorem i_levelWord7 (w : World) : Calls Try.prog 10 #[.int .i64 8] w fun e w' => e = .returned (.string (levelWord 8)) ∧ w = w' := by
  have x := levelWord_ix7
  go_enter Try.func10, Try.ntmps10
  go_wp2
  go_ret
  exact ⟨ret_str (by decide), rfl⟩
theorem levelWord_ix8 (w : World) : (Instr.index 44 (.agg #[.string { data := #[97, 115, 115, 105, 103, 110] }, .string { data := #[99, 111, 110, 100] }, .string { data := #[111, 114] }, .string { data := #[97, 110, 100] }, .string { data := #[105, 110] }, .string { data := #[109, 97, 116, 99, 104] }, .string { data := #[99, 111, 109, 112, 97, 114, 101] }, .string { data := #[99, 97, 116] }, .string { data := #[97, 100, 100] }, .string { data := #[109, 117, 108] }, .string { data := #[117, 110, 97, 114, 121] }, .string { data := #[112, 111, 119] }, .string { data := #[105, 110, 99, 114] }, .string { data := #[102, 105, 101, 108, 100] }, .string { data := #[112, 114, 105, 109, 97, 114, 121] }]) (.int .i64 8)).run Try.prog w = .ok (.string { data := #[97, 100, 100] }) w := by kernel_rfl
theorem i_levelWord8 (w : World) : Calls Try.prog 10 #[.int .i64 9] w fun e w' => e = .returned (.string (levelWord 9)) ∧ w = w' := by
  have x := levelWord_ix8
  go_enter Try.func10, Try.ntmps10
  go_wp2
  go_ret
  exact ⟨ret_str (by decide), rfl⟩
theorem levelWord_ix9 (w : World) : (Instr.index 44 (.agg #[.string { data := #[97, 115, 115, 105, 103, 110] }, .string { data := #[99, 111, 110, 100] }, .string { data := #[111, 114] }, .string { data := #[97, 110, 100] }, .string { data := #[105, 110] }, .string { data := #[109, 97, 116, 99, 104] }, .string { data := #[99, 111, 109, 112, 97, 114, 101] }, .string { data := #[99, 97, 116] }, .string { data := #[97, 100, 100] }, .string { data := #[109, 117, 108] }, .string { data := #[117, 110, 97, 114, 121] }, .string { data := #[112, 111, 119] }, .string { data := #[105, 110, 99, 114] }, .string { data := #[102, 105, 101, 108, 100] }, .string { data := #[112, 114, 105, 109, 97, 114, 121] }]) (.int .i64 9)).run Try.prog w = .ok (.string { data := #[109, 117, 108] }) w := by kernel_rfl
theorem i_levelWord9 (w : World) : Calls Try.prog 10 #[.int .i64 10] w fun e w' => e = .returned (.string (levelWord 10)) ∧ w = w' := by
  have x := levelWord_ix9
  go_enter Try.func10, Try.ntmps10
  go_wp2
  go_ret
  exact ⟨ret_str (by decide), rfl⟩
theorem levelWord_ix10 (w : World) : (Instr.index 44 (.agg #[.string { data := #[97, 115, 115, 105, 103, 110] }, .string { data := #[99, 111, 110, 100] }, .string { data := #[111, 114] }, .string { data := #[97, 110, 100] }, .string { data := #[105, 110] }, .string { data := #[109, 97, 116, 99, 104] }, .string { data := #[99, 111, 109, 112, 97, 114, 101] }, .string { data := #[99, 97, 116] }, .string { data := #[97, 100, 100] }, .string { data := #[109, 117, 108] }, .string { data := #[117, 110, 97, 114, 121] }, .string { data := #[112, 111, 119] }, .string { data := #[105, 110, 99, 114] }, .string { data := #[102, 105, 101, 108, 100] }, .string { data := #[112, 114, 105, 109, 97, 114, 121] }]) (.int .i64 10)).run Try.prog w = .ok (.string { data := #[117, 110, 97, 114, 121] }) w := by kernel_rfl
theorem i_levelWord10 (w : World) : Calls Try.prog 10 #[.int .i64 11] w fun e w' => e = .returned (.string (levelWord 11)) ∧ w = w' := by
  have x := levelWord_ix10
  go_enter Try.func10, Try.ntmps10
  go_wp2
  go_ret
  exact ⟨ret_str (by decide), rfl⟩
theorem levelWord_ix11 (w : World) : (Instr.index 44 (.agg #[.string { data := #[97, 115, 115, 105, 103, 110] }, .string { data := #[99, 111, 110, 100] }, .string { data := #[111, 114] }, .string { data := #[97, 110, 100] }, .string { data := #[105, 110] }, .string { data := #[109, 97, 116, 99, 104] }, .string { data := #[99, 111, 109, 112, 97, 114, 101] }, .string { data := #[99, 97, 116] }, .string { data := #[97, 100, 100] }, .string { data := #[109, 117, 108] }, .string { data := #[117, 110, 97, 114, 121] }, .string { data := #[112, 111, 119] }, .string { data := #[105, 110, 99, 114] }, .string { data := #[102, 105, 101, 108, 100] }, .string { data := #[112, 114, 105, 109, 97, 114, 121] }]) (.int .i64 11)).run Try.prog w = .ok (.string { data := #[112, 111, 119] }) w := by kernel_rfl
theorem i_levelWord11 (w : World) : Calls Try.prog 10 #[.int .i64 12] w fun e w' => e = .returned (.string (levelWord 12)) ∧ w = w' := by
  have x := levelWord_ix11
  go_enter Try.func10, Try.ntmps10
  go_wp2
  go_ret
  exact ⟨ret_str (by decide), rfl⟩
theorem levelWord_ix12 (w : World) : (Instr.index 44 (.agg #[.string { data := #[97, 115, 115, 105, 103, 110] }, .string { data := #[99, 111, 110, 100] }, .string { data := #[111, 114] }, .string { data := #[97, 110, 100] }, .string { data := #[105, 110] }, .string { data := #[109, 97, 116, 99, 104] }, .string { data := #[99, 111, 109, 112, 97, 114, 101] }, .string { data := #[99, 97, 116] }, .string { data := #[97, 100, 100] }, .string { data := #[109, 117, 108] }, .string { data := #[117, 110, 97, 114, 121] }, .string { data := #[112, 111, 119] }, .string { data := #[105, 110, 99, 114] }, .string { data := #[102, 105, 101, 108, 100] }, .string { data := #[112, 114, 105, 109, 97, 114, 121] }]) (.int .i64 12)).run Try.prog w = .ok (.string { data := #[105, 110, 99, 114] }) w := by kernel_rfl
theorem i_levelWord12 (w : World) : Calls Try.prog 10 #[.int .i64 13] w fun e w' => e = .returned (.string (levelWord 13)) ∧ w = w' := by
  have x := levelWord_ix12
  go_enter Try.func10, Try.ntmps10
  go_wp2
  go_ret
  exact ⟨ret_str (by decide), rfl⟩
theorem levelWord_ix13 (w : World) : (Instr.index 44 (.agg #[.string { data := #[97, 115, 115, 105, 103, 110] }, .string { data := #[99, 111, 110, 100] }, .string { data := #[111, 114] }, .string { data := #[97, 110, 100] }, .string { data := #[105, 110] }, .string { data := #[109, 97, 116, 99, 104] }, .string { data := #[99, 111, 109, 112, 97, 114, 101] }, .string { data := #[99, 97, 116] }, .string { data := #[97, 100, 100] }, .string { data := #[109, 117, 108] }, .string { data := #[117, 110, 97, 114, 121] }, .string { data := #[112, 111, 119] }, .string { data := #[105, 110, 99, 114] }, .string { data := #[102, 105, 101, 108, 100] }, .string { data := #[112, 114, 105, 109, 97, 114, 121] }]) (.int .i64 13)).run Try.prog w = .ok (.string { data := #[102, 105, 101, 108, 100] }) w := by kernel_rfl
theorem i_levelWord13 (w : World) : Calls Try.prog 10 #[.int .i64 14] w fun e w' => e = .returned (.string (levelWord 14)) ∧ w = w' := by
  have x := levelWord_ix13
  go_enter Try.func10, Try.ntmps10
  go_wp2
  go_ret
  exact ⟨ret_str (by decide), rfl⟩
theorem levelWord_ix14 (w : World) : (Instr.index 44 (.agg #[.string { data := #[97, 115, 115, 105, 103, 110] }, .string { data := #[99, 111, 110, 100] }, .string { data := #[111, 114] }, .string { data := #[97, 110, 100] }, .string { data := #[105, 110] }, .string { data := #[109, 97, 116, 99, 104] }, .string { data := #[99, 111, 109, 112, 97, 114, 101] }, .string { data := #[99, 97, 116] }, .string { data := #[97, 100, 100] }, .string { data := #[109, 117, 108] }, .string { data := #[117, 110, 97, 114, 121] }, .string { data := #[112, 111, 119] }, .string { data := #[105, 110, 99, 114] }, .string { data := #[102, 105, 101, 108, 100] }, .string { data := #[112, 114, 105, 109, 97, 114, 121] }]) (.int .i64 14)).run Try.prog w = .ok (.string { data := #[112, 114, 105, 109, 97, 114, 121] }) w := by kernel_rfl
theorem i_levelWord14 (w : World) : Calls Try.prog 10 #[.int .i64 15] w fun e w' => e = .returned (.string (levelWord 15)) ∧ w = w' := by
  have x := levelWord_ix14
  go_enter Try.func10, Try.ntmps10
  go_wp2
  go_ret
  exact ⟨ret_str (by decide), rfl⟩
theorem i_levelWord (k : Int) (w : World) : Calls Try.prog 10 #[.int .i64 k] w fun e w' => e = .returned (.string (levelWord k)) ∧ w = w' := by
  by_cases h : inB k 1 15 = true
  · have hk : k = 1 ∨ k = 2 ∨ k = 3 ∨ k = 4 ∨ k = 5 ∨ k = 6 ∨ k = 7 ∨ k = 8 ∨ k = 9 ∨ k = 10 ∨ k = 11 ∨ k = 12 ∨ k = 13 ∨ k = 14 ∨ k = 15 := by rw [inB_true] at h; omega
    clear h
    rcases hk with rfl | rfl | rfl | rfl | rfl | rfl | rfl | rfl | rfl | rfl | rfl | rfl | rfl | rfl | rfl
    · exact i_levelWord0 w
    · exact i_levelWord1 w
    · exact i_levelWord2 w
    · exact i_levelWord3 w
    · exact i_levelWord4 w
    · exact i_levelWord5 w
    · exact i_levelWord6 w
    · exact i_levelWord7 w
    · exact i_levelWord8 w
    · exact i_levelWord9 w
    · exact i_levelWord10 w
    · exact i_levelWord11 w
    · exact i_levelWord12 w
    · exact i_levelWord13 w
    · exact i_levelWord14 w
  · rw [Bool.not_eq_true] at h
    go_enter Try.func10, Try.ntmps10
    go_wp2_with (go_at_call 21; refine (i_within _ _ _ _).mono ?_; rintro e w' ⟨rfl, rfl⟩)
    go_ret
    exact ⟨ret_str (by simp [levelWord, h]), rfl⟩
end Go.Proofs.Ytlabmboedjnpmaa
