/- A text without line ends; whether a token is valid, both sides (walks). -/
import Derived.Test.YtdajhcammnlonaaDoorTabsI
import Derived.Test.YtdajhcammnlonaaDoorLexPure
import Derived.Deep.QuietTactic
import Derived.BigQuiet
import Derived.Laws.Runes
namespace Go.Proofs.YtdajhcammnlonaaDoor
open Go.RowKit
set_option linter.unusedVariables false

theorem plainB_iff {s : ByteArray} : plainB s = true ↔ ∀ i (h : i < s.size), s[i] ≠ 10 := by
  unfold plainB
  rw [Bool.not_eq_true', ← Bool.not_eq_true, List.contains_iff_mem]
  constructor
  · intro hh i h e
    exact hh (by rw [Array.mem_toList_iff, Array.mem_iff_getElem]; exact ⟨i, h, e⟩)
  · intro hh hm
    rw [Array.mem_toList_iff, Array.mem_iff_getElem] at hm
    obtain ⟨i, h, e⟩ := hm
    exact hh i h e
theorem tok_empty {t : ByteArray} (h : t.size = 0) : t = bs [] := by
  obtain ⟨⟨l⟩⟩ := t
  have h : l.length = 0 := h
  rw [List.length_eq_zero_iff.1 h]; rfl
theorem tix_run (s : ByteArray) (c : Int) (w : World) : (callFunc 137 #[.string s, .int .u8 c]).run Tryd.prog w = .ok (.value (.int .i64 (firstIdx s c.toNat.toUInt8))) w := by
  rw [run_callFunc_extern (P := Tryd.prog) (e := Extern.BytealgIndexByte.indexByte) Tryd.func137 (by kernel_rfl) (by kernel_rfl) (by kernel_rfl) (by kernel_rfl), run_indexByte_string]
  rfl
set_option maxRecDepth 100000 in
theorem tix (s : ByteArray) (c : Int) (w : World) : Calls Tryd.prog 124 #[.string s, .int .u8 c] w fun e w' => e = .returned (.int .i64 (firstIdx s c.toNat.toUInt8)) ∧ w = w' := by
  have hx := tix_run
  go_enter Tryd.func124, Tryd.ntmps124
  go_wp2
  go_ret
  exact ⟨rfl, rfl⟩
def nlText : ByteArray := { data := #[10] }
/-- where the first line end of a text lies -/
def nlIdx (s : ByteArray) : Int := firstIdx s 10
theorem nlIdx_plain (s : ByteArray) : decide (0 ≤ nlIdx s) = !plainB s := by
  unfold nlIdx
  rw [firstIdx_nonneg]
  unfold plainB
  rw [Bool.not_not, Bool.eq_iff_iff, List.any_eq_true, List.contains_iff_mem]
  constructor
  · rintro ⟨x, hx, e⟩; rw [← eq_of_beq e]; exact hx
  · intro h; exact ⟨_, h, beq_self_eq_true _⟩
theorem nlIdx_self : nlIdx nlText = 0 := by decide
set_option maxRecDepth 100000 in
theorem lite_index (s : ByteArray) (w : World) : Calls Tryd.prog 130 #[.string s, .string { data := #[10] }] w fun e w' => e = .returned (.int .i64 (nlIdx s)) ∧ w = w' := by
  cases h : ([10] : List UInt8) == s.toList
  · go_enter Tryd.func130, Tryd.ntmps130
    go_wp2_with (go_at_call 124; refine (tix _ _ _).mono ?_; rintro e w' ⟨rfl, rfl⟩)
    go_ret
    exact ⟨rfl, rfl⟩
  · have e : s = nlText := by
      have h2 := eq_of_beq h
      rw [ByteArray.toList_eq] at h2
      obtain ⟨⟨l⟩⟩ := s
      have h3 : [10] = l := h2
      rw [← h3]; rfl
    have e0 : nlIdx s = 0 := by rw [e]; exact nlIdx_self
    rw [e0]
    clear e0 e
    go_enter Tryd.func130, Tryd.ntmps130
    go_wp2_with fail
    go_ret
    exact ⟨rfl, rfl⟩
theorem i_index (s : ByteArray) (w : World) : Calls Tryd.prog 117 #[.string s, .string { data := #[10] }] w fun e w' => e = .returned (.int .i64 (nlIdx s)) ∧ w = w' := by
  go_enter Tryd.func117, Tryd.ntmps117
  go_wp2_with (go_at_call 130; refine (lite_index _ _).mono ?_; rintro e w' ⟨rfl, rfl⟩)
  go_ret
  exact ⟨rfl, rfl⟩
theorem i_contains (s : ByteArray) (w : World) : Calls Tryd.prog 82 #[.string s, .string { data := #[10] }] w fun e w' => e = .returned (.bool (!plainB s)) ∧ w = w' := by
  have hF := Lib.hid (nlIdx_plain s)
  go_enter Tryd.func82, Tryd.ntmps82
  go_wp2_with (go_at_call 117; refine (i_index _ _).mono ?_; rintro e w' ⟨rfl, rfl⟩)
  go_ret
  exact ⟨ret_bool (by rw [← hF.out]), rfl⟩
set_option maxRecDepth 100000 in
theorem s_plain (s : ByteArray) (w : World) (hs : s.size ≤ 16777216) : Calls Tryd.prog 109 #[.string s] w fun e w' => e = .returned (.bool (plainB s)) ∧ w = w' := by
  obtain ⟨R, hR⟩ : ∃ R, plainB s = R := ⟨_, rfl⟩
  rw [hR]
  have hRH := Lib.hid hR
  clear hR
  go_enter Tryd.func109, Tryd.ntmps109
  go_wp2_with fail
  go_loop [3] (fun z => ∃ (j : Nat), j ≤ s.size ∧ Hid (∀ i (h : i < s.size), i < j → s[i] ≠ 10) ∧ z = .int .i64 j) (fun z => (s.size - (intOf z).toNat))
  case atStart => exact ⟨0, by omega, by show ∀ _, _; intro i h h0; omega, by go_num⟩
  case round =>
    obtain ⟨j, hj, hd, rfl⟩ := hrel
    by_cases hlt : j < s.size
    · cases hx : ((s[j]'hlt).toNat : Int) == 10
      · have hst : Hid (∀ i (h : i < s.size), i < j + 1 → s[i] ≠ 10) := by
          show ∀ _, _
          intro i h h0
          by_cases e : i = j
          · subst e
            intro c
            rw [c] at hx
            exact absurd hx (by decide)
          · exact hd.out i h (by omega)
        go_wp2_with fail
        go_round
        case rel => exact ⟨j + 1, by omega, hst, by go_num⟩
        case measure => simp [intOf]; omega
      · have hRF : R = false := by
          rw [← hRH.out, ← Bool.not_eq_true, plainB_iff]
          intro hh
          refine hh j hlt ?_
          have h2 := eq_of_beq hx
          have h3 : (s[j]'hlt).toNat = 10 := by omega
          exact UInt8.toNat.inj h3
        subst hRF
        go_wp2_with fail
        go_ret
        exact ⟨rfl, rfl⟩
    · have hRT : R = true := by
        rw [← hRH.out, plainB_iff]
        exact fun i h => hd.out i h (by omega)
      subst hRT
      go_wp2_with fail
      go_ret
      exact ⟨rfl, rfl⟩
end Go.Proofs.YtdajhcammnlonaaDoor
