/- What Hex returns, the reference's and the program's. -/
import Derived.Test.YtdajhcammnlonaaDoorNum
import Derived.Test.YtdajhcammnlonaaDoorOwn
import Derived.Deep.RegionHeld3
namespace Go.Proofs.YtdajhcammnlonaaDoor
open Go.RowKit
set_option linter.unusedVariables false

theorem digit_ix (i : Nat) (h : i < 16) : ∀ w : World, (Instr.index 9 (.string { data := #[48, 49, 50, 51, 52, 53, 54, 55, 56, 57, 97, 98, 99, 100, 101, 102] }) (.int .i64 (i : Int))).run Tryd.prog w = .ok (.int .u8 ((hexDig i).toNat : Int)) w := by
  intro w
  have hi : i = 0 ∨ i = 1 ∨ i = 2 ∨ i = 3 ∨ i = 4 ∨ i = 5 ∨ i = 6 ∨ i = 7 ∨ i = 8 ∨ i = 9 ∨ i = 10 ∨ i = 11 ∨ i = 12 ∨ i = 13 ∨ i = 14 ∨ i = 15 := by omega
  rcases hi with rfl | rfl | rfl | rfl | rfl | rfl | rfl | rfl | rfl | rfl | rfl | rfl | rfl | rfl | rfl | rfl <;> (rw [run_index_string _ _ _ _ _ Tryd.underlying9]; rfl)
theorem digit_u8 (x : Int) (h0 : 0 ≤ x) (h : x < 16) : ∀ w : World, (Instr.index 9 (.string { data := #[48, 49, 50, 51, 52, 53, 54, 55, 56, 57, 97, 98, 99, 100, 101, 102] }) (.int .u8 x)).run Tryd.prog w = .ok (.int .u8 ((hexDig x.toNat).toNat : Int)) w := by
  intro w
  obtain ⟨i, rfl⟩ := Int.eq_ofNat_of_zero_le h0
  have hi : i = 0 ∨ i = 1 ∨ i = 2 ∨ i = 3 ∨ i = 4 ∨ i = 5 ∨ i = 6 ∨ i = 7 ∨ i = 8 ∨ i = 9 ∨ i = 10 ∨ i = 11 ∨ i = 12 ∨ i = 13 ∨ i = 14 ∨ i = 15 := by omega
  rcases hi with rfl | rfl | rfl | rfl | rfl | rfl | rfl | rfl | rfl | rfl | rfl | rfl | rfl | rfl | rfl | rfl <;> (rw [run_index_string _ _ _ _ _ Tryd.underlying9]; rfl)
theorem and15 (b : Nat) (h : b < 256) : bits .and .u8 (b : Int) 15 = (b : Int) % 16 := by
  have g : ∀ b : Fin 256, bits .and .u8 ((b.val : Nat) : Int) 15 = ((b.val : Nat) : Int) % 16 := by decide +kernel
  exact g ⟨b, h⟩
theorem hex_take (s : ByteArray) (j : Nat) (h : j < s.size) : hexL (s.data.toList.take (j + 1)) = hexL (s.data.toList.take j) ++ [hexDig (s[j].toNat / 16), hexDig (s[j].toNat % 16)] := by
  rw [List.take_succ_eq_append_getElem (by simpa using h), hexL_append]
  rfl
theorem hex_take_len (s : ByteArray) (j : Nat) (h : j ≤ s.size) : (hexL (s.data.toList.take j)).length = 2 * j := by
  rw [hexL_length, List.length_take]
  have e : s.data.toList.length = s.size := by simp
  omega
set_option maxRecDepth 100000 in
theorem i_hex (s : ByteArray) (w : World) (hs : s.size ≤ 16777216) : Calls Tryd.prog 41 #[.string s] w fun e w' => e = .returned (.string ⟨(hexL s.data.toList).toArray⟩) ∧ Below w.heap.size w w' := by
  go_enter Tryd.func41, Tryd.ntmps41
  go_wp2
  go_loopw [3, 8] (fun v i wr => ∃ (j : Nat) (l : List UInt8), (j ≤ s.size) ∧ Hid (l = hexL (s.data.toList.take j)) ∧ OwnB wr w.heap.size v l ∧ i = .int .i64 j ∧ Below w.heap.size w wr) (fun _ i _ => (s.size - (intOf i).toNat))
  case atStart => exact ⟨0, [], by omega, rfl, OwnB.start w (Nat.le_refl _), by go_num, (Below.refl _ _).alloc (Nat.le_refl _) _⟩
  case round =>
    rename_i v0 _
    obtain ⟨j, l, hj, hd, hown, rfl, hb⟩ := hrel
    by_cases hlt : j < s.size
    · obtain ⟨b, h8⟩ : ∃ b : Nat, s[j].toNat = b := ⟨_, rfl⟩
      have hb0 : b < 256 := by have := s[j].toNat_lt; omega
      have hst : Hid (l ++ [hexDig ((b : Int) / 16).toNat, hexDig ((b : Int) % 16).toNat] = hexL (s.data.toList.take (j + 1))) := by
        show _ = _
        rw [hex_take s j hlt, ← hd.out, h8]
        rfl
      have hl2 : l.length ≤ 33554432 := by rw [hd.out, hex_take_len s j hj]; omega
      have hand := and15 b hb0
      have hx1 := digit_u8 ((b : Int) / 16) (by omega) (by omega)
      have hx2 := digit_u8 ((b : Int) % 16) (by omega) (by omega)
      go_wp2_with fail
      go_region_held3 (fun _ => True) (trivial) (first
        | ((refine step_app_bytes (by rfl) _ _ (by rfl) w.heap.size _ l (by rfl) (hown.alloc _) _ 2 2 [hexDig ((b : Int) / 16).toNat, hexDig ((b : Int) % 16).toNat] (by rfl) rfl (two_new _ _ _ _) (by omega) (by have := hb.size; simp; omega) ?_; intro v' w' hown' hb')))
      all_goals
        clear hand hx1 hx2
        go_wp2
        go_roundw
        case rel => exact ⟨j + 1, _, by omega, hst, hown', by go_num, ((hb.alloc hb.size _).drew).trans hb'⟩
        case measure => simp [intOf]; omega
    · obtain rfl : j = s.size := by omega
      have hall : l = hexL s.data.toList := by
        rw [hd.out, List.take_of_length_le (by simp)]
      subst hall
      have hcv := conv_own hown
      go_wp2
      go_ret
      exact ⟨rfl, hb⟩
end Go.Proofs.YtdajhcammnlonaaDoor
