/- What the scanning functions return (contracts): the byte at a place, the end of digits, of a number, of a quoted text, of a word; the reference's and the program's alike. -/
import Derived.Test.YtlabmboedjnpmaaGreatDoorChars
import Derived.Test.YtlabmboedjnpmaaGreatDoorPureR
namespace Go.Proofs.YtlabmboedjnpmaaGreatDoor
open Go.RowKit
set_option linter.unusedVariables false

theorem s_byte (s : ByteArray) (k : Int) (w : World) (hs : s.size ≤ 16777216) : Calls Tryz.prog 107 #[.string s, .int .i64 k] w fun e w' => e = .returned (.int .i64 (bAt s k)) ∧ w = w' := by
  by_cases h0 : 0 ≤ k
  · obtain ⟨n, rfl⟩ := Int.eq_ofNat_of_zero_le h0
    by_cases h1 : n < s.size
    · go_enter Tryz.func107, Tryz.ntmps107
      go_wp2
      go_ret
      exact ⟨ret_int (by rw [bAt_nat h1]; have := s[n].toNat_lt; exact IntWalk.wrap64_in _ (by omega)), rfl⟩
    · go_enter Tryz.func107, Tryz.ntmps107
      go_wp2
      go_ret
      exact ⟨ret_int (bAt_out (by omega)).symm, rfl⟩
  · go_enter Tryz.func107, Tryz.ntmps107
    go_wp2
    go_ret
    exact ⟨ret_int (bAt_out (by omega)).symm, rfl⟩
theorem i_byte (s : ByteArray) (k : Int) (w : World) (hs : s.size ≤ 16777216) : Calls Tryz.prog 95 #[.string s, .int .i64 k] w fun e w' => e = .returned (.int .i64 (bAt s k)) ∧ w = w' := by
  by_cases h0 : 0 ≤ k
  · obtain ⟨n, rfl⟩ := Int.eq_ofNat_of_zero_le h0
    by_cases h1 : n < s.size
    · have hin : inB (n : Int) 0 ((s.size : Int) - 1) = true := by rw [inB_true]; omega
      go_enter Tryz.func95, Tryz.ntmps95
      go_wp2_with (go_at_call 28; refine (i_within _ _ _ _).mono ?_; rintro e w' ⟨rfl, rfl⟩)
      go_ret
      exact ⟨ret_int (by rw [bAt_nat h1]; have := s[n].toNat_lt; exact IntWalk.wrap64_in _ (by omega)), rfl⟩
    · have hin : inB (n : Int) 0 ((s.size : Int) - 1) = false := by rw [inB_false]; omega
      go_enter Tryz.func95, Tryz.ntmps95
      go_wp2_with (go_at_call 28; refine (i_within _ _ _ _).mono ?_; rintro e w' ⟨rfl, rfl⟩)
      go_ret
      exact ⟨ret_int (bAt_out (by omega)).symm, rfl⟩
  · have hin : inB k 0 ((s.size : Int) - 1) = false := by rw [inB_false]; omega
    go_enter Tryz.func95, Tryz.ntmps95
    go_wp2_with (go_at_call 28; refine (i_within _ _ _ _).mono ?_; rintro e w' ⟨rfl, rfl⟩)
    go_ret
    exact ⟨ret_int (bAt_out (by omega)).symm, rfl⟩
theorem s_digits (s : ByteArray) (k : Int) (w : World) (hs : s.size ≤ 16777216) : Calls Tryz.prog 106 #[.string s, .int .i64 k] w fun e w' => e = .returned (.int .i64 (digitsEnd s k)) ∧ w = w' := by
  go_enter Tryz.func106, Tryz.ntmps106
  go_wp2
  go_loop [1] (fun v => ∃ j : Int, (k ≤ j ∧ (j ≤ k ∨ j ≤ s.size)) ∧ Hid (digitsEnd s j = digitsEnd s k) ∧ v = .int .i64 j) (fun v => (s.size - intOf v).toNat)
  case atStart => exact ⟨k, by omega, rfl, rfl⟩
  case round =>
    obtain ⟨j, hj, hd, rfl⟩ := hrel
    by_cases hb : isDigitB (bAt s j) = true
    · have hr : 0 ≤ j ∧ j < s.size := bAt_range (fun e => by rw [e, isDigitB_m1] at hb; cases hb)
      have hst : Hid (digitsEnd s (j + 1) = digitsEnd s k) := (runEnd_step isDigitB_m1 hb).symm.trans hd.out
      go_wp2_with (first | (go_at_call 107; refine (s_byte _ _ _ hs).mono ?_; rintro e w' ⟨rfl, rfl⟩) | (go_at_call 115; refine (s_isDigit _ _).mono ?_; rintro e w' ⟨rfl, rfl⟩))
      go_round
      case rel => exact ⟨j + 1, by omega, hst, rfl⟩
      case measure => simp [intOf]; omega
    · rw [Bool.not_eq_true] at hb
      have hst : Hid (j = digitsEnd s k) := (runEnd_stop hb).symm.trans hd.out
      go_wp2_with (first | (go_at_call 107; refine (s_byte _ _ _ hs).mono ?_; rintro e w' ⟨rfl, rfl⟩) | (go_at_call 115; refine (s_isDigit _ _).mono ?_; rintro e w' ⟨rfl, rfl⟩))
      go_ret
      exact ⟨ret_int hst.out, rfl⟩
theorem i_digits (s : ByteArray) (k : Int) (w : World) (hs : s.size ≤ 16777216) : Calls Tryz.prog 94 #[.string s, .int .i64 k] w fun e w' => e = .returned (.int .i64 (digitsEnd s k)) ∧ w = w' := by
  go_enter Tryz.func94, Tryz.ntmps94
  go_wp2
  go_loop [1] (fun v => ∃ j : Int, (k ≤ j ∧ (j ≤ k ∨ j ≤ s.size)) ∧ Hid (digitsEnd s j = digitsEnd s k) ∧ v = .int .i64 j) (fun v => (s.size - intOf v).toNat)
  case atStart => exact ⟨k, by omega, rfl, rfl⟩
  case round =>
    obtain ⟨j, hj, hd, rfl⟩ := hrel
    by_cases hb : isDigitB (bAt s j) = true
    · have hr : 0 ≤ j ∧ j < s.size := bAt_range (fun e => by rw [e, isDigitB_m1] at hb; cases hb)
      have hst : Hid (digitsEnd s (j + 1) = digitsEnd s k) := (runEnd_step isDigitB_m1 hb).symm.trans hd.out
      go_wp2_with (first | (go_at_call 95; refine (i_byte _ _ _ hs).mono ?_; rintro e w' ⟨rfl, rfl⟩) | (go_at_call 110; refine (i_isDigit _ _).mono ?_; rintro e w' ⟨rfl, rfl⟩))
      go_round
      case rel => exact ⟨j + 1, by omega, hst, rfl⟩
      case measure => simp [intOf]; omega
    · rw [Bool.not_eq_true] at hb
      have hst : Hid (j = digitsEnd s k) := (runEnd_stop hb).symm.trans hd.out
      go_wp2_with (first | (go_at_call 95; refine (i_byte _ _ _ hs).mono ?_; rintro e w' ⟨rfl, rfl⟩) | (go_at_call 110; refine (i_isDigit _ _).mono ?_; rintro e w' ⟨rfl, rfl⟩))
      go_ret
      exact ⟨ret_int hst.out, rfl⟩
theorem s_quoted (s : ByteArray) (k q : Int) (w : World) (hs : s.size ≤ 16777216) (hq : q = 34 ∨ q = 47) : Calls Tryz.prog 108 #[.string s, .int .i64 k, .int .i64 q] w fun e w' => e = .returned (.int .i64 (quoted s k q)) ∧ w = w' := by
  by_cases hk : bAt s k = q
  · have hr : 0 ≤ k ∧ k < s.size := bAt_range (fun e => by omega)
    have hQ : Hid (quoted s k q = quotedGo s q (k + 1).toNat) := by show quoted s k q = _; rw [quoted, if_pos hk]
    obtain ⟨n, rfl⟩ := Int.eq_ofNat_of_zero_le hr.1
    have hQ2 : Hid (quotedGo s q (n + 1) = quoted s n q) := by rw [hQ.out]; rfl
    clear hQ
    go_enter Tryz.func108, Tryz.ntmps108
    go_wp2_with (go_at_call 107; refine (s_byte _ _ _ hs).mono ?_; rintro e w' ⟨rfl, rfl⟩)
    clear hk
    go_loop [7] (fun v => ∃ j : Nat, (j ≤ s.size + 1) ∧ Hid (quotedGo s q j = quoted s n q) ∧ v = .int .i64 j) (fun v => (s.size + 2 - (intOf v).toNat))
    case atStart => exact ⟨n + 1, by omega, hQ2, by go_num⟩
    case round =>
      obtain ⟨j, hj, hd, rfl⟩ := hrel
      clear hQ2
      by_cases hlt : j < s.size
      · have hun : Hid (quoted s n q = if bAt s j = q then (j : Int) + 1 else if bAt s j = 10 then -1 else if bAt s j = 92 then (if bAt s (j + 1) = 10 then -1 else quotedGo s q (j + 2)) else quotedGo s q (j + 1)) := by
          show quoted s n q = _
          rw [← hd.out, quotedGo, if_pos hlt]
        have hbj := bAt_nat hlt
        obtain ⟨b, h8⟩ : ∃ b : Int, (s[j].toNat : Int) = b := ⟨_, rfl⟩
        have hb0 : 0 ≤ b ∧ b < 256 := by have := s[j].toNat_lt; omega
        rw [h8] at hbj
        rw [hbj] at hun
        clear hbj hd
        by_cases c1 : b = q
        · rw [if_pos c1] at hun
          subst c1
          have c10 : (b != 10) = true := by rw [bne_iff_ne]; omega
          go_wp2_with (go_at_call 107; refine (s_byte _ _ _ hs).mono ?_; rintro e w' ⟨rfl, rfl⟩)
          go_ret
          exact ⟨ret_int hun.out.symm, rfl⟩
        · rw [if_neg c1] at hun
          have c1b : (b == q) = false := by rw [beq_eq_false_iff_ne]; exact c1
          by_cases c2 : b = 10
          · rw [if_pos c2] at hun
            subst c2
            go_wp2_with (go_at_call 107; refine (s_byte _ _ _ hs).mono ?_; rintro e w' ⟨rfl, rfl⟩)
            go_ret
            exact ⟨ret_int hun.out.symm, rfl⟩
          · rw [if_neg c2] at hun
            have c2b : (b == 10) = false := by rw [beq_eq_false_iff_ne]; exact c2
            have c2c : (b != 10) = true := by rw [bne_iff_ne]; exact c2
            by_cases c3 : b = 92
            · rw [if_pos c3] at hun
              subst c3
              by_cases c4 : bAt s (j + 1) = 10
              · rw [if_pos c4] at hun
                go_wp2_with (go_at_call 107; refine (s_byte _ _ _ hs).mono ?_; rintro e w' ⟨rfl, rfl⟩)
                go_ret
                exact ⟨ret_int hun.out.symm, rfl⟩
              · rw [if_neg c4] at hun
                have c4b : (bAt s (j + 1) == 10) = false := by rw [beq_eq_false_iff_ne]; exact c4
                have c4c : (bAt s (j + 1) != 10) = true := by rw [bne_iff_ne]; exact c4
                go_wp2_with (go_at_call 107; refine (s_byte _ _ _ hs).mono ?_; rintro e w' ⟨rfl, rfl⟩)
                go_round
                case rel => exact ⟨j + 2, by omega, hun.out.symm, by go_num⟩
                case measure => simp [intOf]; omega
            · rw [if_neg c3] at hun
              have c3b : (b == 92) = false := by rw [beq_eq_false_iff_ne]; exact c3
              go_wp2_with (go_at_call 107; refine (s_byte _ _ _ hs).mono ?_; rintro e w' ⟨rfl, rfl⟩)
              go_round
              case rel => exact ⟨j + 1, by omega, hun.out.symm, by go_num⟩
              case measure => simp [intOf]; omega
      · have hun : Hid (-1 = quoted s n q) := by
          show -1 = quoted s n q
          rw [← hd.out, quotedGo, if_neg hlt]
        go_wp2_with (go_at_call 107; refine (s_byte _ _ _ hs).mono ?_; rintro e w' ⟨rfl, rfl⟩)
        go_ret
        exact ⟨ret_int hun.out, rfl⟩
  · have hn : Hid (quoted s k q = -1) := by show quoted s k q = -1; rw [quoted, if_neg hk]
    have hkb : (bAt s k != q) = true := by rw [bne_iff_ne]; exact hk
    go_enter Tryz.func108, Tryz.ntmps108
    go_wp2_with (go_at_call 107; refine (s_byte _ _ _ hs).mono ?_; rintro e w' ⟨rfl, rfl⟩)
    go_ret
    exact ⟨ret_int hn.out.symm, rfl⟩
theorem i_quoted (s : ByteArray) (k q : Int) (w : World) (hs : s.size ≤ 16777216) (hq : q = 34 ∨ q = 47) : Calls Tryz.prog 96 #[.string s, .int .i64 k, .int .i64 q] w fun e w' => e = .returned (.int .i64 (quoted s k q)) ∧ w = w' := by
  by_cases hk : bAt s k = q
  · have hr : 0 ≤ k ∧ k < s.size := bAt_range (fun e => by omega)
    have hQ : Hid (quoted s k q = quotedGo s q (k + 1).toNat) := by show quoted s k q = _; rw [quoted, if_pos hk]
    obtain ⟨n, rfl⟩ := Int.eq_ofNat_of_zero_le hr.1
    have hQ2 : Hid (quotedGo s q (n + 1) = quoted s n q) := by rw [hQ.out]; rfl
    clear hQ
    go_enter Tryz.func96, Tryz.ntmps96
    go_wp2_with (go_at_call 95; refine (i_byte _ _ _ hs).mono ?_; rintro e w' ⟨rfl, rfl⟩)
    clear hk
    go_loop [7] (fun v => ∃ j : Nat, (j ≤ s.size + 1) ∧ Hid (quotedGo s q j = quoted s n q) ∧ v = .int .i64 j) (fun v => (s.size + 2 - (intOf v).toNat))
    case atStart => exact ⟨n + 1, by omega, hQ2, by go_num⟩
    case round =>
      obtain ⟨j, hj, hd, rfl⟩ := hrel
      clear hQ2
      by_cases hlt : j < s.size
      · have hun : Hid (quoted s n q = if bAt s j = q then (j : Int) + 1 else if bAt s j = 10 then -1 else if bAt s j = 92 then (if bAt s (j + 1) = 10 then -1 else quotedGo s q (j + 2)) else quotedGo s q (j + 1)) := by
          show quoted s n q = _
          rw [← hd.out, quotedGo, if_pos hlt]
        have hbj := bAt_nat hlt
        obtain ⟨b, h8⟩ : ∃ b : Int, (s[j].toNat : Int) = b := ⟨_, rfl⟩
        have hb0 : 0 ≤ b ∧ b < 256 := by have := s[j].toNat_lt; omega
        rw [h8] at hbj
        rw [hbj] at hun
        clear hbj hd
        by_cases c1 : b = q
        · rw [if_pos c1] at hun
          subst c1
          have c10 : (b != 10) = true := by rw [bne_iff_ne]; omega
          go_wp2_with (go_at_call 95; refine (i_byte _ _ _ hs).mono ?_; rintro e w' ⟨rfl, rfl⟩)
          go_ret
          exact ⟨ret_int hun.out.symm, rfl⟩
        · rw [if_neg c1] at hun
          have c1b : (b == q) = false := by rw [beq_eq_false_iff_ne]; exact c1
          by_cases c2 : b = 10
          · rw [if_pos c2] at hun
            subst c2
            go_wp2_with (go_at_call 95; refine (i_byte _ _ _ hs).mono ?_; rintro e w' ⟨rfl, rfl⟩)
            go_ret
            exact ⟨ret_int hun.out.symm, rfl⟩
          · rw [if_neg c2] at hun
            have c2b : (b == 10) = false := by rw [beq_eq_false_iff_ne]; exact c2
            have c2c : (b != 10) = true := by rw [bne_iff_ne]; exact c2
            by_cases c3 : b = 92
            · rw [if_pos c3] at hun
              subst c3
              by_cases c4 : bAt s (j + 1) = 10
              · rw [if_pos c4] at hun
                have hj1 : j + 1 < s.size := by
                  have := bAt_range (s := s) (k := (j : Int) + 1) (by omega)
                  omega
                have hq1 : Hid (quotedGo s q (j + 1) = quoted s n q) := by
                  show quotedGo s q (j + 1) = quoted s n q
                  rw [hun.out, quotedGo, if_pos hj1]
                  have e1 : bAt s ((j + 1 : Nat) : Int) = 10 := c4
                  rw [e1, if_neg (by omega), if_pos rfl]
                go_wp2_with (go_at_call 95; refine (i_byte _ _ _ hs).mono ?_; rintro e w' ⟨rfl, rfl⟩)
                go_round
                case rel => exact ⟨j + 1, by omega, hq1, by go_num⟩
                case measure => simp [intOf]; omega
              · rw [if_neg c4] at hun
                have c4b : (bAt s (j + 1) == 10) = false := by rw [beq_eq_false_iff_ne]; exact c4
                have c4c : (bAt s (j + 1) != 10) = true := by rw [bne_iff_ne]; exact c4
                go_wp2_with (go_at_call 95; refine (i_byte _ _ _ hs).mono ?_; rintro e w' ⟨rfl, rfl⟩)
                go_round
                case rel => exact ⟨j + 2, by omega, hun.out.symm, by go_num⟩
                case measure => simp [intOf]; omega
            · rw [if_neg c3] at hun
              have c3b : (b == 92) = false := by rw [beq_eq_false_iff_ne]; exact c3
              go_wp2_with (go_at_call 95; refine (i_byte _ _ _ hs).mono ?_; rintro e w' ⟨rfl, rfl⟩)
              go_round
              case rel => exact ⟨j + 1, by omega, hun.out.symm, by go_num⟩
              case measure => simp [intOf]; omega
      · have hun : Hid (-1 = quoted s n q) := by
          show -1 = quoted s n q
          rw [← hd.out, quotedGo, if_neg hlt]
        go_wp2_with (go_at_call 95; refine (i_byte _ _ _ hs).mono ?_; rintro e w' ⟨rfl, rfl⟩)
        go_ret
        exact ⟨ret_int hun.out, rfl⟩
  · have hn : Hid (quoted s k q = -1) := by show quoted s k q = -1; rw [quoted, if_neg hk]
    have hkb : (bAt s k != q) = true := by rw [bne_iff_ne]; exact hk
    go_enter Tryz.func96, Tryz.ntmps96
    go_wp2_with (go_at_call 95; refine (i_byte _ _ _ hs).mono ?_; rintro e w' ⟨rfl, rfl⟩)
    go_ret
    exact ⟨ret_int hn.out.symm, rfl⟩
theorem s_strEnd (s : ByteArray) (k : Int) (w : World) (hs : s.size ≤ 16777216) : Calls Tryz.prog 86 #[.string s, .int .i64 k] w fun e w' => e = .returned (.int .i64 (strEnd s k)) ∧ w = w' := by
  go_enter Tryz.func86, Tryz.ntmps86
  go_wp2_with (go_at_call 108; refine (s_quoted _ _ _ _ hs (.inl rfl)).mono ?_; rintro e w' ⟨rfl, rfl⟩)
  go_ret
  exact ⟨rfl, rfl⟩
theorem s_ereEnd (s : ByteArray) (k : Int) (w : World) (hs : s.size ≤ 16777216) : Calls Tryz.prog 87 #[.string s, .int .i64 k] w fun e w' => e = .returned (.int .i64 (ereEnd s k)) ∧ w = w' := by
  by_cases hr : 0 ≤ k ∧ k < s.size
  · have hw : wrap64 (k + 2) = k + 2 := IntWalk.wrap64_in _ (by omega)
    by_cases he : quoted s k 47 = k + 2
    · have hE : Hid (ereEnd s k = -1) := by show ereEnd s k = -1; rw [ereEnd, if_pos he]
      go_enter Tryz.func87, Tryz.ntmps87
      go_wp2_with (go_at_call 108; refine (s_quoted _ _ _ _ hs (.inr rfl)).mono ?_; rintro e w' ⟨rfl, rfl⟩)
      go_ret
      exact ⟨ret_int hE.out.symm, rfl⟩
    · have hE : Hid (ereEnd s k = quoted s k 47) := by show ereEnd s k = _; rw [ereEnd, if_neg he]
      have heb : (quoted s k 47 == k + 2) = false := by rw [beq_eq_false_iff_ne]; exact he
      go_enter Tryz.func87, Tryz.ntmps87
      go_wp2_with (go_at_call 108; refine (s_quoted _ _ _ _ hs (.inr rfl)).mono ?_; rintro e w' ⟨rfl, rfl⟩)
      go_ret
      exact ⟨ret_int hE.out.symm, rfl⟩
  · have hq : quoted s k 47 = -1 := by rw [quoted, bAt_out hr]; rfl
    have hE : Hid (ereEnd s k = -1) := by show ereEnd s k = -1; rw [ereEnd, hq]; split <;> rfl
    go_enter Tryz.func87, Tryz.ntmps87
    go_wp2_with (go_at_call 108; refine (s_quoted _ _ _ _ hs (.inr rfl)).mono ?_; rintro e w' ⟨rfl, rfl⟩)
    all_goals (go_ret; exact ⟨ret_int (by first | exact hE.out.symm | (rw [hE.out]; assumption) | (rw [hE.out]; exact hq)), rfl⟩)
theorem i_strEnd (s : ByteArray) (k : Int) (w : World) (hs : s.size ≤ 16777216) : Calls Tryz.prog 69 #[.string s, .int .i64 k] w fun e w' => e = .returned (.int .i64 (strEnd s k)) ∧ w = w' := by
  go_enter Tryz.func69, Tryz.ntmps69
  go_wp2_with (go_at_call 96; refine (i_quoted _ _ _ _ hs (.inl rfl)).mono ?_; rintro e w' ⟨rfl, rfl⟩)
  go_ret
  exact ⟨rfl, rfl⟩
theorem i_ereEnd (s : ByteArray) (k : Int) (w : World) (hs : s.size ≤ 16777216) : Calls Tryz.prog 70 #[.string s, .int .i64 k] w fun e w' => e = .returned (.int .i64 (ereEnd s k)) ∧ w = w' := by
  by_cases hr : 0 ≤ k ∧ k < s.size
  · have hw : wrap64 (k + 2) = k + 2 := IntWalk.wrap64_in _ (by omega)
    by_cases he : quoted s k 47 = k + 2
    · have hE : Hid (ereEnd s k = -1) := by show ereEnd s k = -1; rw [ereEnd, if_pos he]
      go_enter Tryz.func70, Tryz.ntmps70
      go_wp2_with (go_at_call 96; refine (i_quoted _ _ _ _ hs (.inr rfl)).mono ?_; rintro e w' ⟨rfl, rfl⟩)
      go_ret
      exact ⟨ret_int hE.out.symm, rfl⟩
    · have hE : Hid (ereEnd s k = quoted s k 47) := by show ereEnd s k = _; rw [ereEnd, if_neg he]
      have heb : (quoted s k 47 == k + 2) = false := by rw [beq_eq_false_iff_ne]; exact he
      go_enter Tryz.func70, Tryz.ntmps70
      go_wp2_with (go_at_call 96; refine (i_quoted _ _ _ _ hs (.inr rfl)).mono ?_; rintro e w' ⟨rfl, rfl⟩)
      go_ret
      exact ⟨ret_int hE.out.symm, rfl⟩
  · have hq : quoted s k 47 = -1 := by rw [quoted, bAt_out hr]; rfl
    have hE : Hid (ereEnd s k = -1) := by show ereEnd s k = -1; rw [ereEnd, hq]; split <;> rfl
    go_enter Tryz.func70, Tryz.ntmps70
    go_wp2_with (go_at_call 96; refine (i_quoted _ _ _ _ hs (.inr rfl)).mono ?_; rintro e w' ⟨rfl, rfl⟩)
    all_goals (go_ret; exact ⟨ret_int (by first | exact hE.out.symm | (rw [hE.out]; assumption) | (rw [hE.out]; exact hq)), rfl⟩)
theorem s_numEnd_out (s : ByteArray) (k : Int) (w : World) (hs : s.size ≤ 16777216) (hk : ¬ (0 ≤ k ∧ k < s.size)) : Calls Tryz.prog 85 #[.string s, .int .i64 k] w fun e w' => e = .returned (.int .i64 (numEnd s k)) ∧ w = w' := by
  have hN : Hid (numEnd s k = -1) := by
    show numEnd s k = -1
    unfold numEnd
    by_cases h0 : k < 0
    · rw [if_pos h0]
    · have hd : digitsEnd s k = k := runEnd_far _ _ _ (by omega)
      have hm : numMant s k = -1 := by
        unfold numMant
        rw [hd, bAt_out hk, if_neg (by omega), if_pos rfl]
      rw [if_neg h0, if_pos hm]
  by_cases h0 : k < 0
  · go_enter Tryz.func85, Tryz.ntmps85
    go_wp2_with (first | (go_at_call 107; refine (s_byte _ _ _ hs).mono ?_; rintro e w' ⟨rfl, rfl⟩) | (go_at_call 106; refine (s_digits _ _ _ hs).mono ?_; rintro e w' ⟨rfl, rfl⟩))
    all_goals (go_ret; exact ⟨ret_int hN.out.symm, rfl⟩)
  have hd : digitsEnd s k = k := runEnd_far _ _ _ (by omega)
  have hb : bAt s k = -1 := bAt_out hk
  go_enter Tryz.func85, Tryz.ntmps85
  go_wp2_with (first | (go_at_call 107; refine (s_byte _ _ _ hs).mono ?_; rintro e w' ⟨rfl, rfl⟩) | (go_at_call 106; refine (s_digits _ _ _ hs).mono ?_; rintro e w' ⟨rfl, rfl⟩))
  all_goals (go_ret; exact ⟨ret_int hN.out.symm, rfl⟩)
set_option maxHeartbeats 1000000 in
theorem s_numEnd (s : ByteArray) (k : Int) (w : World) (hs : s.size ≤ 16777216) : Calls Tryz.prog 85 #[.string s, .int .i64 k] w fun e w' => e = .returned (.int .i64 (numEnd s k)) ∧ w = w' := by
  by_cases hk : 0 ≤ k ∧ k < s.size
  · have hk0 : ¬ k < 0 := by omega
    obtain ⟨e, he⟩ : ∃ x, digitsEnd s k = x := ⟨_, rfl⟩
    have hge : k ≤ e := he ▸ digitsEnd_ge s k
    have hle : e ≤ s.size := he ▸ digitsEnd_le s k (by omega)
    have hN0 : numEnd s k = if numMant s k = -1 then -1 else numExp s (numMant s k) := by rw [numEnd, if_neg (by omega)]
    by_cases hdot : bAt s e = 46
    · have her : 0 ≤ e ∧ e < s.size := bAt_range (fun h => by omega)
      obtain ⟨m, hf⟩ : ∃ x, digitsEnd s (e + 1) = x := ⟨_, rfl⟩
      have hge2 : e + 1 ≤ m := hf ▸ digitsEnd_ge s (e + 1)
      have hle2 : m ≤ s.size := hf ▸ digitsEnd_le s (e + 1) (by omega)
      have hdb : (bAt s e == 46) = true := by rw [beq_iff_eq]; exact hdot
      by_cases hbad : e = k ∧ m = e + 1
      · have hN : Hid (numEnd s k = -1) := by
          show numEnd s k = -1
          rw [hN0, numMant, he, if_pos hdot, hf, if_pos hbad, if_pos rfl]
        obtain ⟨rfl, rfl⟩ := hbad
        clear hN0
        go_enter Tryz.func85, Tryz.ntmps85
        go_wp2_with (first | (go_at_call 107; refine (s_byte _ _ _ hs).mono ?_; rintro e w' ⟨rfl, rfl⟩) | (go_at_call 106; refine (s_digits _ _ _ hs).mono ?_; rintro e w' ⟨rfl, rfl⟩))
        all_goals (go_ret; exact ⟨ret_int hN.out.symm, rfl⟩)
      · have hN : numEnd s k = numExp s m := by
          rw [hN0, numMant, he, if_pos hdot, hf, if_neg hbad, if_neg (by omega)]
        clear hN0
        have H0 := digitsEnd_ge s (m + 1)
        have H1 := digitsEnd_ge s (m + 1 + 1)
        obtain ⟨bm, e0⟩ : ∃ x, bAt s m = x := ⟨_, rfl⟩
        obtain ⟨c, e1⟩ : ∃ x, bAt s (m + 1) = x := ⟨_, rfl⟩
        obtain ⟨d1, e2⟩ : ∃ x, digitsEnd s (m + 1) = x := ⟨_, rfl⟩
        obtain ⟨d2, e3⟩ : ∃ x, digitsEnd s (m + 1 + 1) = x := ⟨_, rfl⟩
        have hX := numExp_eq e0 e1 e2 e3
        rw [hX] at hN
        clear hX
        rw [e2] at H0
        rw [e3] at H1
        have hN := Lib.hid hN
        by_cases hek : e = k
        · subst hek
          have hm1 : m ≠ e + 1 := fun h => hbad ⟨rfl, h⟩
          have hx : True := trivial
          go_enter Tryz.func85, Tryz.ntmps85
          go_wp2_with (first | (go_at_call 107; refine (s_byte _ _ _ hs).mono ?_; rintro e w' ⟨rfl, rfl⟩) | (go_at_call 106; refine (s_digits _ _ _ hs).mono ?_; rintro e w' ⟨rfl, rfl⟩))
          all_goals (go_ret; refine ⟨ret_int ?_, rfl⟩; have hN := hN.out; clear e0 e1 e2 e3 he hf hdot hdb; grind)
        · have hx : True := trivial
          go_enter Tryz.func85, Tryz.ntmps85
          go_wp2_with (first | (go_at_call 107; refine (s_byte _ _ _ hs).mono ?_; rintro e w' ⟨rfl, rfl⟩) | (go_at_call 106; refine (s_digits _ _ _ hs).mono ?_; rintro e w' ⟨rfl, rfl⟩))
          all_goals (go_ret; refine ⟨ret_int ?_, rfl⟩; have hN := hN.out; clear e0 e1 e2 e3 he hf hdot hdb; grind)
    · have hdb : (bAt s e == 46) = false := by rw [beq_eq_false_iff_ne]; exact hdot
      by_cases hek : e = k
      · have hN : Hid (numEnd s k = -1) := by
          show numEnd s k = -1
          rw [hN0, numMant, he, if_neg hdot, if_pos hek, if_pos rfl]
        clear hN0
        subst hek
        go_enter Tryz.func85, Tryz.ntmps85
        go_wp2_with (first | (go_at_call 107; refine (s_byte _ _ _ hs).mono ?_; rintro e w' ⟨rfl, rfl⟩) | (go_at_call 106; refine (s_digits _ _ _ hs).mono ?_; rintro e w' ⟨rfl, rfl⟩))
        all_goals (go_ret; exact ⟨ret_int hN.out.symm, rfl⟩)
      · have hN : numEnd s k = numExp s e := by
          rw [hN0, numMant, he, if_neg hdot, if_neg hek, if_neg (by omega)]
        clear hN0
        obtain ⟨m, rfl⟩ : ∃ x, x = e := ⟨_, rfl⟩
        have H0 := digitsEnd_ge s (m + 1)
        have H1 := digitsEnd_ge s (m + 1 + 1)
        obtain ⟨bm, e0⟩ : ∃ x, bAt s m = x := ⟨_, rfl⟩
        obtain ⟨c, e1⟩ : ∃ x, bAt s (m + 1) = x := ⟨_, rfl⟩
        obtain ⟨d1, e2⟩ : ∃ x, digitsEnd s (m + 1) = x := ⟨_, rfl⟩
        obtain ⟨d2, e3⟩ : ∃ x, digitsEnd s (m + 1 + 1) = x := ⟨_, rfl⟩
        have hX := numExp_eq e0 e1 e2 e3
        rw [hX] at hN
        clear hX
        rw [e2] at H0
        rw [e3] at H1
        have hN := Lib.hid hN
        have hx : True := trivial
        go_enter Tryz.func85, Tryz.ntmps85
        go_wp2_with (first | (go_at_call 107; refine (s_byte _ _ _ hs).mono ?_; rintro e w' ⟨rfl, rfl⟩) | (go_at_call 106; refine (s_digits _ _ _ hs).mono ?_; rintro e w' ⟨rfl, rfl⟩))
        all_goals (go_ret; refine ⟨ret_int ?_, rfl⟩; have hN := hN.out; clear e0 e1 e2 e3 he hdot hdb; grind)
  · exact s_numEnd_out s k w hs hk
theorem i_numEnd_out (s : ByteArray) (k : Int) (w : World) (hs : s.size ≤ 16777216) (hk : ¬ (0 ≤ k ∧ k < s.size)) : Calls Tryz.prog 68 #[.string s, .int .i64 k] w fun e w' => e = .returned (.int .i64 (numEnd s k)) ∧ w = w' := by
  have hN : Hid (numEnd s k = -1) := by
    show numEnd s k = -1
    unfold numEnd
    by_cases h0 : k < 0
    · rw [if_pos h0]
    · have hd : digitsEnd s k = k := runEnd_far _ _ _ (by omega)
      have hm : numMant s k = -1 := by
        unfold numMant
        rw [hd, bAt_out hk, if_neg (by omega), if_pos rfl]
      rw [if_neg h0, if_pos hm]
  have hin : inB k 0 ((s.size : Int) - 1) = false := by rw [inB_false]; omega
  go_enter Tryz.func68, Tryz.ntmps68
  go_wp2_with (first | (go_at_call 95; refine (i_byte _ _ _ hs).mono ?_; rintro e w' ⟨rfl, rfl⟩) | (go_at_call 94; refine (i_digits _ _ _ hs).mono ?_; rintro e w' ⟨rfl, rfl⟩) | (go_at_call 28; refine (i_within _ _ _ _).mono ?_; rintro e w' ⟨rfl, rfl⟩))
  all_goals (go_ret; exact ⟨ret_int hN.out.symm, rfl⟩)
set_option maxHeartbeats 1000000 in
theorem i_numEnd (s : ByteArray) (k : Int) (w : World) (hs : s.size ≤ 16777216) : Calls Tryz.prog 68 #[.string s, .int .i64 k] w fun e w' => e = .returned (.int .i64 (numEnd s k)) ∧ w = w' := by
  by_cases hk : 0 ≤ k ∧ k < s.size
  · have hin : inB k 0 ((s.size : Int) - 1) = true := by rw [inB_true]; omega
    obtain ⟨e, he⟩ : ∃ x, digitsEnd s k = x := ⟨_, rfl⟩
    have hge : k ≤ e := he ▸ digitsEnd_ge s k
    have hle : e ≤ s.size := he ▸ digitsEnd_le s k (by omega)
    have hN0 : numEnd s k = if numMant s k = -1 then -1 else numExp s (numMant s k) := by rw [numEnd, if_neg (by omega)]
    by_cases hdot : bAt s e = 46
    · have her : 0 ≤ e ∧ e < s.size := bAt_range (fun h => by omega)
      obtain ⟨m, hf⟩ : ∃ x, digitsEnd s (e + 1) = x := ⟨_, rfl⟩
      have hge2 : e + 1 ≤ m := hf ▸ digitsEnd_ge s (e + 1)
      have hle2 : m ≤ s.size := hf ▸ digitsEnd_le s (e + 1) (by omega)
      have hdb : (bAt s e == 46) = true := by rw [beq_iff_eq]; exact hdot
      by_cases hbad : e = k ∧ m = e + 1
      · have hN : Hid (numEnd s k = -1) := by
          show numEnd s k = -1
          rw [hN0, numMant, he, if_pos hdot, hf, if_pos hbad, if_pos rfl]
        obtain ⟨rfl, rfl⟩ := hbad
        clear hN0
        go_enter Tryz.func68, Tryz.ntmps68
        go_wp2_with (first | (go_at_call 95; refine (i_byte _ _ _ hs).mono ?_; rintro e w' ⟨rfl, rfl⟩) | (go_at_call 94; refine (i_digits _ _ _ hs).mono ?_; rintro e w' ⟨rfl, rfl⟩) | (go_at_call 28; refine (i_within _ _ _ _).mono ?_; rintro e w' ⟨rfl, rfl⟩))
        all_goals (go_ret; exact ⟨ret_int hN.out.symm, rfl⟩)
      · have hN : numEnd s k = numExp s m := by
          rw [hN0, numMant, he, if_pos hdot, hf, if_neg hbad, if_neg (by omega)]
        clear hN0
        have H0 := digitsEnd_ge s (m + 1)
        have H1 := digitsEnd_ge s (m + 1 + 1)
        obtain ⟨bm, e0⟩ : ∃ x, bAt s m = x := ⟨_, rfl⟩
        obtain ⟨c, e1⟩ : ∃ x, bAt s (m + 1) = x := ⟨_, rfl⟩
        obtain ⟨d1, e2⟩ : ∃ x, digitsEnd s (m + 1) = x := ⟨_, rfl⟩
        obtain ⟨d2, e3⟩ : ∃ x, digitsEnd s (m + 1 + 1) = x := ⟨_, rfl⟩
        have hX := numExp_eq e0 e1 e2 e3
        rw [hX] at hN
        clear hX
        rw [e2] at H0
        rw [e3] at H1
        have hN := Lib.hid hN
        by_cases hek : e = k
        · subst hek
          have hm1 : m ≠ e + 1 := fun h => hbad ⟨rfl, h⟩
          have hx : True := trivial
          go_enter Tryz.func68, Tryz.ntmps68
          go_wp2_with (first | (go_at_call 95; refine (i_byte _ _ _ hs).mono ?_; rintro e w' ⟨rfl, rfl⟩) | (go_at_call 94; refine (i_digits _ _ _ hs).mono ?_; rintro e w' ⟨rfl, rfl⟩) | (go_at_call 28; refine (i_within _ _ _ _).mono ?_; rintro e w' ⟨rfl, rfl⟩))
          all_goals (go_ret; refine ⟨ret_int ?_, rfl⟩; have hN := hN.out; clear e0 e1 e2 e3 he hf hdot hdb; grind)
        · have hx : True := trivial
          go_enter Tryz.func68, Tryz.ntmps68
          go_wp2_with (first | (go_at_call 95; refine (i_byte _ _ _ hs).mono ?_; rintro e w' ⟨rfl, rfl⟩) | (go_at_call 94; refine (i_digits _ _ _ hs).mono ?_; rintro e w' ⟨rfl, rfl⟩) | (go_at_call 28; refine (i_within _ _ _ _).mono ?_; rintro e w' ⟨rfl, rfl⟩))
          all_goals (go_ret; refine ⟨ret_int ?_, rfl⟩; have hN := hN.out; clear e0 e1 e2 e3 he hf hdot hdb; grind)
    · have hdb : (bAt s e == 46) = false := by rw [beq_eq_false_iff_ne]; exact hdot
      by_cases hek : e = k
      · have hN : Hid (numEnd s k = -1) := by
          show numEnd s k = -1
          rw [hN0, numMant, he, if_neg hdot, if_pos hek, if_pos rfl]
        clear hN0
        subst hek
        go_enter Tryz.func68, Tryz.ntmps68
        go_wp2_with (first | (go_at_call 95; refine (i_byte _ _ _ hs).mono ?_; rintro e w' ⟨rfl, rfl⟩) | (go_at_call 94; refine (i_digits _ _ _ hs).mono ?_; rintro e w' ⟨rfl, rfl⟩) | (go_at_call 28; refine (i_within _ _ _ _).mono ?_; rintro e w' ⟨rfl, rfl⟩))
        all_goals (go_ret; exact ⟨ret_int hN.out.symm, rfl⟩)
      · have hN : numEnd s k = numExp s e := by
          rw [hN0, numMant, he, if_neg hdot, if_neg hek, if_neg (by omega)]
        clear hN0
        obtain ⟨m, rfl⟩ : ∃ x, x = e := ⟨_, rfl⟩
        have H0 := digitsEnd_ge s (m + 1)
        have H1 := digitsEnd_ge s (m + 1 + 1)
        obtain ⟨bm, e0⟩ : ∃ x, bAt s m = x := ⟨_, rfl⟩
        obtain ⟨c, e1⟩ : ∃ x, bAt s (m + 1) = x := ⟨_, rfl⟩
        obtain ⟨d1, e2⟩ : ∃ x, digitsEnd s (m + 1) = x := ⟨_, rfl⟩
        obtain ⟨d2, e3⟩ : ∃ x, digitsEnd s (m + 1 + 1) = x := ⟨_, rfl⟩
        have hX := numExp_eq e0 e1 e2 e3
        rw [hX] at hN
        clear hX
        rw [e2] at H0
        rw [e3] at H1
        have hN := Lib.hid hN
        have hx : True := trivial
        go_enter Tryz.func68, Tryz.ntmps68
        go_wp2_with (first | (go_at_call 95; refine (i_byte _ _ _ hs).mono ?_; rintro e w' ⟨rfl, rfl⟩) | (go_at_call 94; refine (i_digits _ _ _ hs).mono ?_; rintro e w' ⟨rfl, rfl⟩) | (go_at_call 28; refine (i_within _ _ _ _).mono ?_; rintro e w' ⟨rfl, rfl⟩))
        all_goals (go_ret; refine ⟨ret_int ?_, rfl⟩; have hN := hN.out; clear e0 e1 e2 e3 he hdot hdb; grind)
  · exact i_numEnd_out s k w hs hk
set_option maxHeartbeats 400000 in
theorem s_nameShape (s : ByteArray) (w : World) (hs : s.size ≤ 16777216) : Calls Tryz.prog 82 #[.string s] w fun e w' => e = .returned (.bool (nameShape s)) ∧ w = w' := by
  go_enter Tryz.func82, Tryz.ntmps82
  go_wp2_with fail
  go_loop [3] (fun v => ∃ j : Nat, (j ≤ s.size) ∧ Hid (wordsFrom s j = wordsFrom s 0) ∧ v = .int .i64 j) (fun v => (s.size - (intOf v).toNat))
  case atStart => exact ⟨0, by omega, rfl, by go_num⟩
  case round =>
    obtain ⟨j, hj, hd, rfl⟩ := hrel
    by_cases hlt : j < s.size
    · have hun : Hid (wordsFrom s 0 = (isWordB (bAt s j) && wordsFrom s (j + 1))) := by show wordsFrom s 0 = _; rw [← hd.out, wordsFrom, if_pos hlt]
      have hbj := bAt_nat hlt
      obtain ⟨b, h8⟩ : ∃ b : Int, (s[j].toNat : Int) = b := ⟨_, rfl⟩
      have hb0 : 0 ≤ b ∧ b < 256 := by have := s[j].toNat_lt; omega
      rw [h8] at hbj
      rw [hbj] at hun
      clear hbj hd
      by_cases c1 : isWordB b = true
      · have hun2 : Hid (wordsFrom s (j + 1) = wordsFrom s 0) := by show wordsFrom s (j + 1) = _; rw [hun.out, c1]; rfl
        go_wp2_with (first | (go_at_call 103; refine (s_isWord _ _).mono ?_; rintro e w' ⟨rfl, rfl⟩) | (go_at_call 30; refine (s_l1In _ _ _ _).mono ?_; rintro e w' ⟨rfl, rfl⟩) | (go_at_call 104; refine (s_isLetter _ _).mono ?_; rintro e w' ⟨rfl, rfl⟩))
        go_round
        case rel => exact ⟨j + 1, by omega, hun2, by go_num⟩
        case measure => simp [intOf]; omega
      · rw [Bool.not_eq_true] at c1
        have hun2 : Hid (nameShape s = false) := by show nameShape s = false; rw [nameShape, hun.out, c1]; rfl
        go_wp2_with (first | (go_at_call 103; refine (s_isWord _ _).mono ?_; rintro e w' ⟨rfl, rfl⟩) | (go_at_call 30; refine (s_l1In _ _ _ _).mono ?_; rintro e w' ⟨rfl, rfl⟩) | (go_at_call 104; refine (s_isLetter _ _).mono ?_; rintro e w' ⟨rfl, rfl⟩))
        go_ret
        exact ⟨ret_bool hun2.out.symm, rfl⟩
    · have hw : wordsFrom s 0 = true := by rw [← hd.out, wordsFrom, if_neg hlt]
      have hn : nameShape s = (inB s.size 1 12 && isLetterB (bAt s 0)) := by rw [nameShape, hw]; rfl
      clear hw hd
      by_cases c1 : inB (s.size : Int) 1 12 = true
      · have h0 : 0 < s.size := by rw [inB_true] at c1; omega
        have hb0 := bAt_nat h0
        obtain ⟨b, h8⟩ : ∃ b : Int, (s[0].toNat : Int) = b := ⟨_, rfl⟩
        have hbr : 0 ≤ b ∧ b < 256 := by have := s[0].toNat_lt; omega
        have hn2 : Hid (nameShape s = isLetterB b) := by show nameShape s = _; rw [hn, c1, ← h8, ← hb0]; rfl
        clear hn hb0
        go_wp2_with (first | (go_at_call 103; refine (s_isWord _ _).mono ?_; rintro e w' ⟨rfl, rfl⟩) | (go_at_call 30; refine (s_l1In _ _ _ _).mono ?_; rintro e w' ⟨rfl, rfl⟩) | (go_at_call 104; refine (s_isLetter _ _).mono ?_; rintro e w' ⟨rfl, rfl⟩))
        go_ret
        exact ⟨ret_bool hn2.out.symm, rfl⟩
      · rw [Bool.not_eq_true] at c1
        have hn2 : Hid (nameShape s = false) := by show nameShape s = _; rw [hn, c1]; rfl
        clear hn
        go_wp2_with (first | (go_at_call 103; refine (s_isWord _ _).mono ?_; rintro e w' ⟨rfl, rfl⟩) | (go_at_call 30; refine (s_l1In _ _ _ _).mono ?_; rintro e w' ⟨rfl, rfl⟩) | (go_at_call 104; refine (s_isLetter _ _).mono ?_; rintro e w' ⟨rfl, rfl⟩))
        go_ret
        exact ⟨ret_bool hn2.out.symm, rfl⟩
set_option maxHeartbeats 400000 in
theorem i_nameShape (s : ByteArray) (w : World) (hs : s.size ≤ 16777216) : Calls Tryz.prog 65 #[.string s] w fun e w' => e = .returned (.bool (nameShape s)) ∧ w = w' := by
  go_enter Tryz.func65, Tryz.ntmps65
  go_wp2_with fail
  go_loop [6] (fun v => ∃ j : Nat, (j ≤ s.size) ∧ Hid (wordsFrom s j = wordsFrom s 0) ∧ v = .int .i64 j) (fun v => (s.size - (intOf v).toNat))
  case atStart => exact ⟨0, by omega, rfl, by go_num⟩
  case round =>
    obtain ⟨j, hj, hd, rfl⟩ := hrel
    by_cases hlt : j < s.size
    · have hun : Hid (wordsFrom s 0 = (isWordB (bAt s j) && wordsFrom s (j + 1))) := by show wordsFrom s 0 = _; rw [← hd.out, wordsFrom, if_pos hlt]
      have hbj := bAt_nat hlt
      obtain ⟨b, h8⟩ : ∃ b : Int, (s[j].toNat : Int) = b := ⟨_, rfl⟩
      have hb0 : 0 ≤ b ∧ b < 256 := by have := s[j].toNat_lt; omega
      rw [h8] at hbj
      rw [hbj] at hun
      clear hbj hd
      by_cases c1 : isWordB b = true
      · have hun2 : Hid (wordsFrom s (j + 1) = wordsFrom s 0) := by show wordsFrom s (j + 1) = _; rw [hun.out, c1]; rfl
        go_wp2_with (first | (go_at_call 91; refine (i_isWord _ _).mono ?_; rintro e w' ⟨rfl, rfl⟩) | (go_at_call 28; refine (i_within _ _ _ _).mono ?_; rintro e w' ⟨rfl, rfl⟩) | (go_at_call 92; refine (i_isLetter _ _).mono ?_; rintro e w' ⟨rfl, rfl⟩))
        go_round
        case rel => exact ⟨j + 1, by omega, hun2, by go_num⟩
        case measure => simp [intOf]; omega
      · rw [Bool.not_eq_true] at c1
        have hun2 : Hid (nameShape s = false) := by show nameShape s = false; rw [nameShape, hun.out, c1]; rfl
        go_wp2_with (first | (go_at_call 91; refine (i_isWord _ _).mono ?_; rintro e w' ⟨rfl, rfl⟩) | (go_at_call 28; refine (i_within _ _ _ _).mono ?_; rintro e w' ⟨rfl, rfl⟩) | (go_at_call 92; refine (i_isLetter _ _).mono ?_; rintro e w' ⟨rfl, rfl⟩))
        go_ret
        exact ⟨ret_bool hun2.out.symm, rfl⟩
    · have hw : wordsFrom s 0 = true := by rw [← hd.out, wordsFrom, if_neg hlt]
      have hn : nameShape s = (inB s.size 1 12 && isLetterB (bAt s 0)) := by rw [nameShape, hw]; rfl
      clear hw hd
      by_cases c1 : inB (s.size : Int) 1 12 = true
      · have h0 : 0 < s.size := by rw [inB_true] at c1; omega
        have hb0 := bAt_nat h0
        obtain ⟨b, h8⟩ : ∃ b : Int, (s[0].toNat : Int) = b := ⟨_, rfl⟩
        have hbr : 0 ≤ b ∧ b < 256 := by have := s[0].toNat_lt; omega
        have hn2 : Hid (nameShape s = isLetterB b) := by show nameShape s = _; rw [hn, c1, ← h8, ← hb0]; rfl
        clear hn hb0
        go_wp2_with (first | (go_at_call 91; refine (i_isWord _ _).mono ?_; rintro e w' ⟨rfl, rfl⟩) | (go_at_call 28; refine (i_within _ _ _ _).mono ?_; rintro e w' ⟨rfl, rfl⟩) | (go_at_call 92; refine (i_isLetter _ _).mono ?_; rintro e w' ⟨rfl, rfl⟩))
        go_ret
        exact ⟨ret_bool hn2.out.symm, rfl⟩
      · rw [Bool.not_eq_true] at c1
        have hn2 : Hid (nameShape s = false) := by show nameShape s = _; rw [hn, c1]; rfl
        clear hn
        go_wp2_with (first | (go_at_call 91; refine (i_isWord _ _).mono ?_; rintro e w' ⟨rfl, rfl⟩) | (go_at_call 28; refine (i_within _ _ _ _).mono ?_; rintro e w' ⟨rfl, rfl⟩) | (go_at_call 92; refine (i_isLetter _ _).mono ?_; rintro e w' ⟨rfl, rfl⟩))
        go_ret
        exact ⟨ret_bool hn2.out.symm, rfl⟩
end Go.Proofs.YtlabmboedjnpmaaGreatDoor
