/- OpAt at a place outside the text, both sides; the law on OpAt (walks). -/
import Derived.Test.YtdajhcammnlonaaDoorOpAtI
import Derived.Test.YtdajhcammnlonaaDoorTokOne
namespace Go.Proofs.YtdajhcammnlonaaDoor
open Go.RowKit
set_option linter.unusedVariables false
theorem opAt_out {s : ByteArray} {k : Int} (hk : ¬ (0 ≤ k ∧ k < s.size)) : opAt s k = (0, 0) := by unfold opAt; rw [if_neg hk]
set_option maxRecDepth 100000 in
set_option maxHeartbeats 2000000 in
theorem s_opAt_out (s : ByteArray) (k : Int) (w : World) (hs : s.size ≤ 16777216) (hk : ¬ (0 ≤ k ∧ k < s.size)) : Calls Tryd.prog 128 #[.string s, .int .i64 k] w fun e w' => e = .returned (.tuple #[.int .i64 (opAt s k).1, .int .i64 (opAt s k).2]) ∧ Below w.heap.size w w' := by
  rw [opAt_out hk]
  have h3 : k < 0 ∨ (0 ≤ k ∧ (s.size : Int) < k) ∨ k = s.size := by omega
  clear hk
  rcases h3 with hk | ⟨hk0, hk⟩ | hk
  · have g0 : decide (0 ≤ k) = false := decide_eq_false (by omega)
    clear hk
    go_enter Tryd.func128, Tryd.ntmps128
    go_wp2_with fail
    refine (s_signs _).mono ?_
    rintro e w1 ⟨rfl, ht, hb⟩
    have htH := Lib.hid ht
    rw [show signL.length = 39 from rfl]
    clear ht
    go_wp2_with fail
    go_loopw [6, 7, 9] (fun x y i wr => ∃ (j : Nat), j ≤ 39 ∧ x = .int .i64 0 ∧ y = .int .i64 0 ∧ i = .int .i64 j ∧ Below w1.heap.size w1 wr) (fun _ _ i _ => (39 - (intOf i).toNat))
    case atStart => exact ⟨0, by omega, rfl, rfl, by go_num, Below.refl _ _⟩
    case round =>
      obtain ⟨j, hj, rfl, rfl, rfl, hbr⟩ := hrel
      by_cases hlt : j < 39
      · obtain ⟨x, hx⟩ : ∃ x, signL[j]? = some x := ⟨_, List.getElem?_eq_getElem hlt⟩
        have c0 := (htH.out.later hbr).2 j x hx
        have hsl := sign_len hx
        obtain ⟨X, hX⟩ : ∃ X, bs x = X := ⟨_, rfl⟩
        have hXs : x.length = X.size := by rw [← hX, bs_size]
        rw [hX] at c0
        rw [hXs] at hsl
        clear hx hX hXs
        go_wp2_with fail
        go_quiet (fail)
        go_wp2_with fail
        go_roundw
        case rel => exact ⟨j + 1, by omega, rfl, rfl, by go_num, below_drewN hbr _⟩
        case measure => simp [intOf]; omega
      · obtain rfl : j = 39 := by omega
        go_wp2_with fail
        go_ret2
        exact ⟨rfl, hb.trans (hbr.mono hb.size)⟩
  · have g0 : decide (0 ≤ k) = true := decide_eq_true hk0
    have g1 : decide (k ≤ (s.size : Int)) = false := decide_eq_false (by omega)
    clear hk0 hk
    go_enter Tryd.func128, Tryd.ntmps128
    go_wp2_with fail
    refine (s_signs _).mono ?_
    rintro e w1 ⟨rfl, ht, hb⟩
    have htH := Lib.hid ht
    rw [show signL.length = 39 from rfl]
    clear ht
    go_wp2_with fail
    go_loopw [6, 7, 9] (fun x y i wr => ∃ (j : Nat), j ≤ 39 ∧ x = .int .i64 0 ∧ y = .int .i64 0 ∧ i = .int .i64 j ∧ Below w1.heap.size w1 wr) (fun _ _ i _ => (39 - (intOf i).toNat))
    case atStart => exact ⟨0, by omega, rfl, rfl, by go_num, Below.refl _ _⟩
    case round =>
      obtain ⟨j, hj, rfl, rfl, rfl, hbr⟩ := hrel
      by_cases hlt : j < 39
      · obtain ⟨x, hx⟩ : ∃ x, signL[j]? = some x := ⟨_, List.getElem?_eq_getElem hlt⟩
        have c0 := (htH.out.later hbr).2 j x hx
        have hsl := sign_len hx
        obtain ⟨X, hX⟩ : ∃ X, bs x = X := ⟨_, rfl⟩
        have hXs : x.length = X.size := by rw [← hX, bs_size]
        rw [hX] at c0
        rw [hXs] at hsl
        clear hx hX hXs
        go_wp2_with fail
        go_quiet (fail)
        go_wp2_with fail
        go_roundw
        case rel => exact ⟨j + 1, by omega, rfl, rfl, by go_num, below_drewN hbr _⟩
        case measure => simp [intOf]; omega
      · obtain rfl : j = 39 := by omega
        go_wp2_with fail
        go_ret2
        exact ⟨rfl, hb.trans (hbr.mono hb.size)⟩
  · obtain ⟨n, rfl⟩ := Int.eq_ofNat_of_zero_le (show 0 ≤ k by omega)
    have hn1 : n ≤ s.size := by omega
    have hn2 : s.size ≤ n := by omega
    clear hk
    have g1 : decide (n ≤ s.size) = true := decide_eq_true hn1
    have gw1 : IntKind.i64.wrap ((s.size : Int) - (n : Int)) = (s.size : Int) - (n : Int) := IntWalk.i64_in _ (by omega)
    go_enter Tryd.func128, Tryd.ntmps128
    go_wp2_with fail
    refine (s_signs _).mono ?_
    rintro e w1 ⟨rfl, ht, hb⟩
    have htH := Lib.hid ht
    rw [show signL.length = 39 from rfl]
    clear ht
    go_wp2_with fail
    go_loopw [6, 7, 9] (fun x y i wr => ∃ (j : Nat), j ≤ 39 ∧ x = .int .i64 0 ∧ y = .int .i64 0 ∧ i = .int .i64 j ∧ Below w1.heap.size w1 wr) (fun _ _ i _ => (39 - (intOf i).toNat))
    case atStart => exact ⟨0, by omega, rfl, rfl, by go_num, Below.refl _ _⟩
    case round =>
      obtain ⟨j, hj, rfl, rfl, rfl, hbr⟩ := hrel
      by_cases hlt : j < 39
      · obtain ⟨x, hx⟩ : ∃ x, signL[j]? = some x := ⟨_, List.getElem?_eq_getElem hlt⟩
        have c0 := (htH.out.later hbr).2 j x hx
        have hsl := sign_len hx
        obtain ⟨X, hX⟩ : ∃ X, bs x = X := ⟨_, rfl⟩
        have hXs : x.length = X.size := by rw [← hX, bs_size]
        rw [hX] at c0
        rw [hXs] at hsl
        have g2 : decide ((X.size : Int) ≤ (s.size : Int) - (n : Int)) = false := decide_eq_false (by omega)
        clear hx hX hXs
        go_wp2_with fail
        go_quiet (fail)
        go_wp2_with fail
        go_roundw
        case rel => exact ⟨j + 1, by omega, rfl, rfl, by go_num, below_drewN hbr _⟩
        case measure => simp [intOf]; omega
      · obtain rfl : j = 39 := by omega
        go_wp2_with fail
        go_ret2
        exact ⟨rfl, hb.trans (hbr.mono hb.size)⟩
theorem s_opAt_any (s : ByteArray) (k : Int) (w : World) (hs : s.size ≤ 16777216) : Calls Tryd.prog 128 #[.string s, .int .i64 k] w fun e w' => e = .returned (.tuple #[.int .i64 (opAt s k).1, .int .i64 (opAt s k).2]) ∧ Below w.heap.size w w' := by
  by_cases hk : 0 ≤ k ∧ k < s.size
  · obtain ⟨n, rfl⟩ := Int.eq_ofNat_of_zero_le hk.1
    exact s_opAt s n w hs (by omega)
  · exact s_opAt_out s k w hs hk
set_option maxRecDepth 100000 in
set_option maxHeartbeats 1000000 in
theorem i_opAt_out (s : ByteArray) (k : Int) (w : World) (hs : s.size ≤ 16777216) (hk : ¬ (0 ≤ k ∧ k < s.size)) : Calls Tryd.prog 15 #[.string s, .int .i64 k] w fun e w' => e = .returned (.tuple #[.int .i64 (opAt s k).1, .int .i64 (opAt s k).2]) ∧ w = w' := by
  rw [opAt_out hk]
  have hin : inB k 0 ((s.size : Int) - 1) = false := inB_false.2 (by omega)
  clear hk
  go_enter Tryd.func15, Tryd.ntmps15
  go_wp2_with (go_at_call 62; refine (i_within _ _ _ _).mono ?_; rintro e w' ⟨rfl, rfl⟩)
  go_ret2
  exact ⟨rfl, rfl⟩
theorem i_opAt_any (s : ByteArray) (k : Int) (w : World) (hs : s.size ≤ 16777216) (t1 : TabAt w 1 signL) : Calls Tryd.prog 15 #[.string s, .int .i64 k] w fun e w' => e = .returned (.tuple #[.int .i64 (opAt s k).1, .int .i64 (opAt s k).2]) ∧ w = w' := by
  by_cases hk : 0 ≤ k ∧ k < s.size
  · obtain ⟨n, rfl⟩ := Int.eq_ofNat_of_zero_le hk.1
    exact i_opAt s n w hs (by omega) t1
  · exact i_opAt_out s k w hs hk
end Go.Proofs.YtdajhcammnlonaaDoor
