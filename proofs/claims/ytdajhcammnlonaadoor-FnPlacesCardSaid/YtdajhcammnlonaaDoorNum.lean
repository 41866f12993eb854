/- What the functions on numbers return (contracts), the reference's and the program's. -/
import Derived.Test.YtdajhcammnlonaaDoorChars
import Derived.Test.YtdajhcammnlonaaDoorNumPure
namespace Go.Proofs.YtdajhcammnlonaaDoor
open Go.RowKit
set_option linter.unusedVariables false

theorem ret2_ib {a b : Int} {x y : Bool} (h : a = b) (h2 : x = y) : Ending.returned (.tuple #[.int .i64 a, .bool x]) = .returned (.tuple #[.int .i64 b, .bool y]) := by rw [h, h2]
theorem ret2_ii {a b x y : Int} (h : a = b) (h2 : x = y) : Ending.returned (.tuple #[.int .i64 a, .int .i64 x]) = .returned (.tuple #[.int .i64 b, .int .i64 y]) := by rw [h, h2]
theorem i_isWidth (x : Int) (w : World) : Calls Tryd.prog 93 #[.int .i64 x] w fun e w' => e = .returned (.bool (inB x 1 7)) ∧ w = w' := by
  go_enter Tryd.func93, Tryd.ntmps93
  go_wp2_with (go_at_call 62; refine (i_within _ _ _ _).mono ?_; rintro e w' ⟨rfl, rfl⟩)
  go_ret
  exact ⟨rfl, rfl⟩
set_option maxHeartbeats 400000 in
theorem i_readFixed (s : ByteArray) (k : Int) (w : World) (hs : s.size ≤ 16777216) : Calls Tryd.prog 38 #[.string s, .int .i64 k] w fun e w' => e = .returned (.tuple #[.int .i64 (readFixed s k), .bool (readFixedOk s k)]) ∧ w = w' := by
  by_cases h1 : inB k 1 7 = true
  · have hr := inB_true.1 h1
    obtain ⟨n, rfl⟩ := Int.eq_ofNat_of_zero_le (show 0 ≤ k by omega)
    by_cases h2 : (n : Int) ≤ s.size
    · have hok : Hid (readFixedOk s n = true) := by show readFixedOk s n = true; simp only [readFixedOk, h1, decide_eq_true h2]; rfl
      have hv : Hid (readFixed s n = rdPre s n) := by show readFixed s n = _; rw [readFixed, if_pos hok.out]; rfl
      go_enter Tryd.func38, Tryd.ntmps38
      go_wp2_with (go_at_call 93; refine (i_isWidth _ _).mono ?_; rintro e w' ⟨rfl, rfl⟩)
      clear h1
      go_loop [6, 18] (fun v i => ∃ j : Nat, (j ≤ n) ∧ v = .int .i64 (rdPre s j) ∧ i = .int .i64 j) (fun _ i => (n - (intOf i).toNat))
      case atStart => exact ⟨0, by omega, rfl, by go_num⟩
      case round =>
        obtain ⟨j, hj, rfl, rfl⟩ := hrel
        by_cases hlt : j < n
        · have hbd := rdPre_bd s j (by omega) (by omega)
          have hbj := bAt_nat (s := s) (k := j) (by omega)
          obtain ⟨b, h8⟩ : ∃ b : Int, (s[j].toNat : Int) = b := ⟨_, rfl⟩
          have hb0 : 0 ≤ b ∧ b < 256 := by have := s[j].toNat_lt; omega
          have hst : Hid (256 * rdPre s j + b = rdPre s (j + 1)) := by show _ = 256 * rdPre s j + bAt s j; rw [hbj, h8]
          clear hbj
          obtain ⟨x, hx⟩ : ∃ x, rdPre s j = x := ⟨_, rfl⟩
          rw [hx] at hbd hst
          have hjs : j < s.size := by omega
          go_wp2_with (go_at_call 93; refine (i_isWidth _ _).mono ?_; rintro e w' ⟨rfl, rfl⟩)
          go_round
          case rel => exact ⟨j + 1, by omega, by first | (rw [← hst.out]; done) | (rw [← hst.out]; go_num), by go_num⟩
          case measure => simp [intOf]; omega
        · obtain rfl : j = n := by omega
          go_wp2_with (go_at_call 93; refine (i_isWidth _ _).mono ?_; rintro e w' ⟨rfl, rfl⟩)
          go_ret2
          exact ⟨ret2_ib hv.out.symm hok.out.symm, rfl⟩
    · have hok : Hid (readFixedOk s n = false) := by show readFixedOk s n = false; simp only [readFixedOk, decide_eq_false h2, Bool.and_false]
      have hv : Hid (readFixed s n = 0) := by show readFixed s n = 0; rw [readFixed, hok.out]; rfl
      go_enter Tryd.func38, Tryd.ntmps38
      go_wp2_with (go_at_call 93; refine (i_isWidth _ _).mono ?_; rintro e w' ⟨rfl, rfl⟩)
      go_ret2
      exact ⟨ret2_ib hv.out.symm hok.out.symm, rfl⟩
  · rw [Bool.not_eq_true] at h1
    have hok : Hid (readFixedOk s k = false) := by show readFixedOk s k = false; simp only [readFixedOk, h1, Bool.false_and]
    have hv : Hid (readFixed s k = 0) := by show readFixed s k = 0; rw [readFixed, hok.out]; rfl
    go_enter Tryd.func38, Tryd.ntmps38
    go_wp2_with (go_at_call 93; refine (i_isWidth _ _).mono ?_; rintro e w' ⟨rfl, rfl⟩)
    go_ret2
    exact ⟨ret2_ib hv.out.symm hok.out.symm, rfl⟩
end Go.Proofs.YtdajhcammnlonaaDoor
