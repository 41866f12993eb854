/- Whether a token is valid (walks): TokenOk, both sides, and the law on it. -/
import Derived.Test.YtlabmboedjnpmaaGreatDoorTabsR
import Derived.Deep.RegionHeld3
namespace Go.Proofs.YtlabmboedjnpmaaGreatDoor
open Go.RowKit
set_option linter.unusedVariables false

theorem tokenOkB_empty (k p : Int) : tokenOkB ⟨k, ⟨#[]⟩, p⟩ = false := by
  have h : ((⟨k, ⟨#[]⟩, p⟩ : PTok).text.size = 0) := rfl
  unfold tokenOkB
  simp only [h, if_true]
theorem tokenOkB_2 {t : ByteArray} (p : Int) (h : t.size ≠ 0) : tokenOkB ⟨2, t, p⟩ = (bAt t 0 == 35 && plainB t) := by simp [tokenOkB, h]
theorem tokenOkB_3 {t : ByteArray} (p : Int) (h : t.size ≠ 0) : tokenOkB ⟨3, t, p⟩ = (numEnd t 0 == t.size) := by simp [tokenOkB, h]
theorem tokenOkB_4 {t : ByteArray} (p : Int) (h : t.size ≠ 0) : tokenOkB ⟨4, t, p⟩ = (strEnd t 0 == t.size) := by simp [tokenOkB, h]
theorem tokenOkB_5 {t : ByteArray} (p : Int) (h : t.size ≠ 0) : tokenOkB ⟨5, t, p⟩ = (ereEnd t 0 == t.size) := by simp [tokenOkB, h]
theorem tokenOkB_6 {t : ByteArray} (p : Int) (h : t.size ≠ 0) : tokenOkB ⟨6, t, p⟩ = nameOkB t := by simp [tokenOkB, h]
theorem tokenOkB_7 {t : ByteArray} (p : Int) (h : t.size ≠ 0) : tokenOkB ⟨7, t, p⟩ = nameOkB t := by simp [tokenOkB, h]
theorem tokenOkB_8 {t : ByteArray} (p : Int) (h : t.size ≠ 0) : tokenOkB ⟨8, t, p⟩ = isBuiltinB t := by simp [tokenOkB, h]
theorem tokenOkB_no {t : ByteArray} {k : Int} (p : Int) (h : t.size ≠ 0) (h2 : (k == 2) = false) (h3 : (k == 3) = false) (h4 : (k == 4) = false) (h5 : (k == 5) = false) (h6 : (k == 6) = false) (h7 : (k == 7) = false) (h8 : (k == 8) = false) :
    tokenOkB ⟨k, t, p⟩ = (t.toList == (spellOf k).toList) := by simp [tokenOkB, h, h2, h3, h4, h5, h6, h7, h8, ByteArray.toList_eq]
theorem strEnd_empty : strEnd ⟨#[]⟩ 0 = -1 := by
  have h : bAt ⟨#[]⟩ 0 = -1 := bAt_out (show ¬ ((0 : Int) ≤ 0 ∧ (0 : Int) < ((0 : Nat) : Int)) by omega)
  unfold strEnd quoted
  rw [h]; decide
theorem ereEnd_empty : ereEnd ⟨#[]⟩ 0 = -1 := by
  have h : bAt ⟨#[]⟩ 0 = -1 := bAt_out (show ¬ ((0 : Int) ≤ 0 ∧ (0 : Int) < ((0 : Nat) : Int)) by omega)
  unfold ereEnd quoted
  rw [h]; decide
theorem nameOkB_empty : nameOkB ⟨#[]⟩ = false := by
  have h : inB ((⟨#[]⟩ : ByteArray).size) 1 12 = false := by decide
  unfold nameOkB nameShape
  rw [h]; simp
theorem isBuiltinB_empty : isBuiltinB ⟨#[]⟩ = false := by decide
theorem first_at {t : ByteArray} (h : 0 < t.size) : bAt t 0 = ((t[0]'h).toNat : Int) := bAt_nat h
/-- a kind is one of those told apart, or none -/
theorem tok_cases (k : Int) (P : Int → Prop) (h2 : P 2) (h3 : P 3) (h4 : P 4) (h5 : P 5) (h6 : P 6) (h7 : P 7) (h8 : P 8)
    (hn : (k == 2) = false → (k == 3) = false → (k == 4) = false → (k == 5) = false → (k == 6) = false → (k == 7) = false → (k == 8) = false → P k) : P k := by
  by_cases c2 : k = 2
  · rw [c2]; exact h2
  by_cases c3 : k = 3
  · rw [c3]; exact h3
  by_cases c4 : k = 4
  · rw [c4]; exact h4
  by_cases c5 : k = 5
  · rw [c5]; exact h5
  by_cases c6 : k = 6
  · rw [c6]; exact h6
  by_cases c7 : k = 7
  · rw [c7]; exact h7
  by_cases c8 : k = 8
  · rw [c8]; exact h8
  exact hn (by simpa using c2) (by simpa using c3) (by simpa using c4) (by simpa using c5) (by simpa using c6) (by simpa using c7) (by simpa using c8)
theorem tok_box (w : World) (a b c : Value) (t : TypeId) : (w.alloc (.cells #[a, b, c] t)).cell? ⟨w.heap.size, 0, none⟩ = some a ∧ (w.alloc (.cells #[a, b, c] t)).cell? ⟨w.heap.size, 1, none⟩ = some b ∧ (w.alloc (.cells #[a, b, c] t)).cell? ⟨w.heap.size, 2, none⟩ = some c ∧
    Below w.heap.size w (w.alloc (.cells #[a, b, c] t)) ∧ w.heap.size < (w.alloc (.cells #[a, b, c] t)).heap.size := by
  refine ⟨?_, ?_, ?_, (Below.refl _ _).alloc (Nat.le_refl _) _, by simp⟩ <;> rw [World.cell?_alloc_new] <;> rfl
set_option maxRecDepth 100000 in
set_option maxHeartbeats 1000000 in
theorem s_tokenOk (k : Int) (t : ByteArray) (p : Int) (w : World) (hk : okI64 k) (ht : t.size ≤ 16777216) : Calls Tryz.prog 63 #[.agg #[.int .i64 k, .string t, .int .i64 p]] w fun e w' => e = .returned (.bool (tokenOkB ⟨k, t, p⟩)) ∧ Below w.heap.size w w' := by
  by_cases h0 : t.size = 0
  · obtain rfl : t = ⟨#[]⟩ := tok_empty h0
    clear h0
    rw [tokenOkB_empty]
    refine tok_cases k (fun k => Calls Tryz.prog 63 #[.agg #[.int .i64 k, .string ⟨#[]⟩, .int .i64 p]] w fun e w' => e = .returned (.bool false) ∧ Below w.heap.size w w') ?_ ?_ ?_ ?_ ?_ ?_ ?_ ?_
    · go_enter Tryz.func63, Tryz.ntmps63
      go_wp2_with fail
      go_ret
      exact ⟨rfl, (Below.refl _ _).alloc (Nat.le_refl _) _⟩
    · go_enter Tryz.func63, Tryz.ntmps63
      go_wp2_with fail
      go_ret
      exact ⟨rfl, (Below.refl _ _).alloc (Nat.le_refl _) _⟩
    · have hz := Lib.hid strEnd_empty
      go_enter Tryz.func63, Tryz.ntmps63
      go_wp2_with (go_at_call 86; refine (s_strEnd _ _ _ ht).mono ?_; rintro e w' ⟨rfl, rfl⟩; rw [hz.out])
      go_ret
      exact ⟨rfl, (Below.refl _ _).alloc (Nat.le_refl _) _⟩
    · have hz := Lib.hid ereEnd_empty
      go_enter Tryz.func63, Tryz.ntmps63
      go_wp2_with (go_at_call 87; refine (s_ereEnd _ _ _ ht).mono ?_; rintro e w' ⟨rfl, rfl⟩; rw [hz.out])
      go_ret
      exact ⟨rfl, (Below.refl _ _).alloc (Nat.le_refl _) _⟩
    · have hz := Lib.hid nameOkB_empty
      go_enter Tryz.func63, Tryz.ntmps63
      go_wp2_with (go_at_call 62; refine (s_nameOk _ _ ht).mono ?_; rintro e w1 ⟨rfl, hb1⟩; rw [hz.out])
      go_ret
      exact ⟨rfl, ((Below.refl _ _).alloc (Nat.le_refl _) _).trans (hb1.mono (by simp))⟩
    · have hz := Lib.hid nameOkB_empty
      go_enter Tryz.func63, Tryz.ntmps63
      go_wp2_with (go_at_call 62; refine (s_nameOk _ _ ht).mono ?_; rintro e w1 ⟨rfl, hb1⟩; rw [hz.out])
      go_ret
      exact ⟨rfl, ((Below.refl _ _).alloc (Nat.le_refl _) _).trans (hb1.mono (by simp))⟩
    · have hz := Lib.hid isBuiltinB_empty
      go_enter Tryz.func63, Tryz.ntmps63
      go_wp2_with (go_at_call 64; refine (s_isBuiltin _ _).mono ?_; rintro e w1 ⟨rfl, hb1⟩; rw [hz.out])
      go_ret
      exact ⟨rfl, ((Below.refl _ _).alloc (Nat.le_refl _) _).trans (hb1.mono (by simp))⟩
    · intro q2 q3 q4 q5 q6 q7 q8
      go_enter Tryz.func63, Tryz.ntmps63
      go_wp2_with fail
      go_quiet (fail)
      go_wp2_with fail
      go_ret
      exact ⟨rfl, (below_drewN ((Below.refl _ _).alloc (Nat.le_refl _) _) _)⟩
  · have hpos : 0 < t.size := by omega
    have hb0 := Lib.hid (first_at hpos)
    revert hk
    refine tok_cases k (fun k => okI64 k → Calls Tryz.prog 63 #[.agg #[.int .i64 k, .string t, .int .i64 p]] w fun e w' => e = .returned (.bool (tokenOkB ⟨k, t, p⟩)) ∧ Below w.heap.size w w') ?_ ?_ ?_ ?_ ?_ ?_ ?_ ?_
    · intro _
      rw [tokenOkB_2 p h0, hb0.out]
      cases hx : ((t[0]'hpos).toNat : Int) == 35
      · rw [Bool.false_and]
        go_enter Tryz.func63, Tryz.ntmps63
        go_wp2_with fail
        go_ret
        exact ⟨rfl, (Below.refl _ _).alloc (Nat.le_refl _) _⟩
      · rw [Bool.true_and]
        go_enter Tryz.func63, Tryz.ntmps63
        go_wp2_with (go_at_call 84; refine (s_plain _ _ ht).mono ?_; rintro e w' ⟨rfl, rfl⟩)
        go_ret
        exact ⟨rfl, (Below.refl _ _).alloc (Nat.le_refl _) _⟩
    · intro _
      rw [tokenOkB_3 p h0]
      go_enter Tryz.func63, Tryz.ntmps63
      go_wp2_with (go_at_call 85; refine (s_numEnd _ _ _ ht).mono ?_; rintro e w' ⟨rfl, rfl⟩)
      go_ret
      exact ⟨rfl, (Below.refl _ _).alloc (Nat.le_refl _) _⟩
    · intro _
      rw [tokenOkB_4 p h0]
      go_enter Tryz.func63, Tryz.ntmps63
      go_wp2_with (go_at_call 86; refine (s_strEnd _ _ _ ht).mono ?_; rintro e w' ⟨rfl, rfl⟩)
      go_ret
      exact ⟨rfl, (Below.refl _ _).alloc (Nat.le_refl _) _⟩
    · intro _
      rw [tokenOkB_5 p h0]
      go_enter Tryz.func63, Tryz.ntmps63
      go_wp2_with (go_at_call 87; refine (s_ereEnd _ _ _ ht).mono ?_; rintro e w' ⟨rfl, rfl⟩)
      go_ret
      exact ⟨rfl, (Below.refl _ _).alloc (Nat.le_refl _) _⟩
    · intro _
      rw [tokenOkB_6 p h0]
      go_enter Tryz.func63, Tryz.ntmps63
      go_wp2_with (go_at_call 62; refine (s_nameOk _ _ ht).mono ?_; rintro e w1 ⟨rfl, hb1⟩)
      go_ret
      exact ⟨rfl, ((Below.refl _ _).alloc (Nat.le_refl _) _).trans (hb1.mono (by simp))⟩
    · intro _
      rw [tokenOkB_7 p h0]
      go_enter Tryz.func63, Tryz.ntmps63
      go_wp2_with (go_at_call 62; refine (s_nameOk _ _ ht).mono ?_; rintro e w1 ⟨rfl, hb1⟩)
      go_ret
      exact ⟨rfl, ((Below.refl _ _).alloc (Nat.le_refl _) _).trans (hb1.mono (by simp))⟩
    · intro _
      rw [tokenOkB_8 p h0]
      go_enter Tryz.func63, Tryz.ntmps63
      go_wp2_with (go_at_call 64; refine (s_isBuiltin _ _).mono ?_; rintro e w1 ⟨rfl, hb1⟩)
      go_ret
      exact ⟨rfl, ((Below.refl _ _).alloc (Nat.le_refl _) _).trans (hb1.mono (by simp))⟩
    · intro q2 q3 q4 q5 q6 q7 q8 hk
      rw [tokenOkB_no p h0 q2 q3 q4 q5 q6 q7 q8]
      have hkH := Lib.hid hk
      have hne : (t.toList == []) = false := by
        rw [ByteArray.toList_eq, beq_eq_false_iff_ne]
        intro c
        exact h0 (by rw [← ByteArray.size_data, ← Array.length_toList, c]; rfl)
      have hsw := Lib.hid (show (t.toList == (spellOf k).toList) = ((spellOf k).toList == t.toList) by rw [Bool.eq_iff_iff, beq_iff_eq, beq_iff_eq]; exact ⟨fun h => h.symm, fun h => h.symm⟩)
      clear hk
      obtain ⟨S, hS⟩ : ∃ S, spellOf k = S := ⟨_, rfl⟩
      have hSH := Lib.hid hS
      rw [hS] at hsw
      rw [hS]
      clear hS
      go_enter Tryz.func63, Tryz.ntmps63
      go_wp2_with fail
      obtain ⟨c0, c1, c2, hb, hlt⟩ := tok_box w (.int .i64 k) (.string t) (.int .i64 p) 64
      generalize w.alloc (.cells #[.int .i64 k, .string t, .int .i64 p] 64) = x at c0 c1 c2 hb hlt ⊢
      have hlt := Lib.hid hlt
      have hkeep : ∀ W', Below x.drew.heap.size x.drew W' → W'.cell? ⟨w.heap.size, 0, none⟩ = some (.int .i64 k) ∧ W'.cell? ⟨w.heap.size, 1, none⟩ = some (.string t) := fun W' h => ⟨(h.cell (p := ⟨w.heap.size, 0, none⟩) hlt.out).trans c0, (h.cell (p := ⟨w.heap.size, 1, none⟩) hlt.out).trans c1⟩
      have hbd : Below w.heap.size w x.drew := below_drewN hb 1
      go_region_held3 (fun W => W.cell? ⟨w.heap.size, 0, none⟩ = some (.int .i64 k) ∧ W.cell? ⟨w.heap.size, 1, none⟩ = some (.string t)) (first | exact hkeep _ b3 | exact hkeep _ (Below.refl _ _)) (((go_at_call 88; refine (s_spellOf _ _ hkH.out).mono ?_; rintro e x3 ⟨rfl, b3⟩; rw [hSH.out])))
      have hb3 := hbd.trans (b3.mono hbd.size)
      go_wp2_with fail
      go_ret
      exact ⟨ret_bool (by rw [hsw.out]), hb3⟩
end Go.Proofs.YtlabmboedjnpmaaGreatDoor
