/- OpSpell (walks), and the walks of the laws on the tables of words. -/
import Derived.Test.YtgcpbigaajeleaaDoorTabsI
namespace Go.Proofs.YtgcpbigaajeleaaDoor
open Go.RowKit
set_option linter.unusedVariables false
theorem ok64 {a : Int} (h : (Lit.int .i64 a).wf = true) : okI64 a := by
  simpa [okI64, Lit.wf, IntKind.min, IntKind.max, IntKind.signed, IntKind.bits] using h
theorem opLevel_ge (k : Int) : 0 ≤ opLevel k ∧ opLevel k ≤ 12 := by
  unfold opLevel
  repeat' split
  all_goals omega
theorem s_isAssign (k : Int) (w : World) : Calls Tryd.prog 67 #[.int .i64 k] w fun e w' => e = .returned (.bool (isAssignB k)) ∧ w = w' := by
  unfold isAssignB
  cases h : k == 54
  · go_enter Tryd.func67, Tryd.ntmps67
    go_wp2_with (go_at_call 58; refine (s_l1In _ _ _ _).mono ?_; rintro e w' ⟨rfl, rfl⟩)
    go_ret
    exact ⟨rfl, rfl⟩
  · go_enter Tryd.func67, Tryd.ntmps67
    go_wp2_with fail
    go_ret
    exact ⟨rfl, rfl⟩
theorem i_isAssign (k : Int) (w : World) : Calls Tryd.prog 69 #[.int .i64 k] w fun e w' => e = .returned (.bool (isAssignB k)) ∧ w = w' := by
  unfold isAssignB
  cases h : k == 54
  · go_enter Tryd.func69, Tryd.ntmps69
    go_wp2_with (go_at_call 95; refine (i_within _ _ _ _).mono ?_; rintro e w' ⟨rfl, rfl⟩)
    go_ret
    exact ⟨rfl, rfl⟩
  · go_enter Tryd.func69, Tryd.ntmps69
    go_wp2_with fail
    go_ret
    exact ⟨rfl, rfl⟩
theorem i_isStep (k : Int) (w : World) : Calls Tryd.prog 70 #[.int .i64 k] w fun e w' => e = .returned (.bool (k == 51 || k == 52)) ∧ w = w' := by
  cases h : k == 51
  · go_enter Tryd.func70, Tryd.ntmps70
    go_wp2_with fail
    go_ret
    exact ⟨rfl, rfl⟩
  · go_enter Tryd.func70, Tryd.ntmps70
    go_wp2_with fail
    go_ret
    exact ⟨rfl, rfl⟩
theorem s_opSpell (k : Int) (w : World) (ho : okI64 k) : Calls Tryd.prog 30 #[.int .i64 k] w fun e w' => e = .returned (.string (opSpell k)) ∧ Below w.heap.size w w' := by
  obtain ⟨R, hR⟩ : ∃ R, opSpell k = R := ⟨_, rfl⟩
  rw [hR]
  have hRH := Lib.hid hR
  clear hR
  obtain ⟨hl0, hl1⟩ := opLevel_ge k
  obtain ⟨L, hL⟩ : ∃ L, opLevel k = L := ⟨_, rfl⟩
  rw [hL] at hl0 hl1
  have hL := Lib.hid hL
  obtain ⟨a, hA⟩ : ∃ a, isAssignB k = a := ⟨_, rfl⟩
  have hA := Lib.hid hA
  by_cases c1 : L = 0
  · have c1b : (L != 0) = false := by simpa using c1
    have c1c : ¬ 0 < L := by omega
    have c1H := Lib.hid c1
    clear c1
    cases a
    · skip
      cases c3 : k == 61
      · skip
        cases c4 : k == 51
        · skip
          cases c5 : k == 52
          · skip
            have hRF : R = ⟨#[]⟩ := by rw [← hRH.out]; simp [opSpell, hL.out, hA.out, c1H.out, c3, c4, c5, bs]
            subst hRF
            go_enter Tryd.func30, Tryd.ntmps30
            go_wp2_with (first | (go_at_call 66; refine (s_opLevel _ _).mono ?_; rintro e w' ⟨rfl, rfl⟩; rw [hL.out]) | (go_at_call 67; refine (s_isAssign _ _).mono ?_; rintro e w' ⟨rfl, rfl⟩; rw [hA.out]) | (go_at_call 24; refine (s_spellOf _ _ ho).mono ?_; rintro e w1 ⟨rfl, hb⟩))
            go_ret
            exact ⟨rfl, Below.refl _ _⟩
          · skip
            have hRF : R = spellOf k := by rw [← hRH.out]; simp [opSpell, hL.out, hA.out, c5]
            subst hRF
            go_enter Tryd.func30, Tryd.ntmps30
            go_wp2_with (first | (go_at_call 66; refine (s_opLevel _ _).mono ?_; rintro e w' ⟨rfl, rfl⟩; rw [hL.out]) | (go_at_call 67; refine (s_isAssign _ _).mono ?_; rintro e w' ⟨rfl, rfl⟩; rw [hA.out]) | (go_at_call 24; refine (s_spellOf _ _ ho).mono ?_; rintro e w1 ⟨rfl, hb⟩))
            go_ret
            exact ⟨rfl, hb⟩
        · skip
          have hRF : R = spellOf k := by rw [← hRH.out]; simp [opSpell, hL.out, hA.out, c4]
          subst hRF
          go_enter Tryd.func30, Tryd.ntmps30
          go_wp2_with (first | (go_at_call 66; refine (s_opLevel _ _).mono ?_; rintro e w' ⟨rfl, rfl⟩; rw [hL.out]) | (go_at_call 67; refine (s_isAssign _ _).mono ?_; rintro e w' ⟨rfl, rfl⟩; rw [hA.out]) | (go_at_call 24; refine (s_spellOf _ _ ho).mono ?_; rintro e w1 ⟨rfl, hb⟩))
          go_ret
          exact ⟨rfl, hb⟩
      · skip
        have hRF : R = spellOf k := by rw [← hRH.out]; simp [opSpell, hL.out, hA.out, c3]
        subst hRF
        go_enter Tryd.func30, Tryd.ntmps30
        go_wp2_with (first | (go_at_call 66; refine (s_opLevel _ _).mono ?_; rintro e w' ⟨rfl, rfl⟩; rw [hL.out]) | (go_at_call 67; refine (s_isAssign _ _).mono ?_; rintro e w' ⟨rfl, rfl⟩; rw [hA.out]) | (go_at_call 24; refine (s_spellOf _ _ ho).mono ?_; rintro e w1 ⟨rfl, hb⟩))
        go_ret
        exact ⟨rfl, hb⟩
    · skip
      have hRF : R = spellOf k := by rw [← hRH.out]; simp [opSpell, hL.out, hA.out, c1b]
      subst hRF
      go_enter Tryd.func30, Tryd.ntmps30
      go_wp2_with (first | (go_at_call 66; refine (s_opLevel _ _).mono ?_; rintro e w' ⟨rfl, rfl⟩; rw [hL.out]) | (go_at_call 67; refine (s_isAssign _ _).mono ?_; rintro e w' ⟨rfl, rfl⟩; rw [hA.out]) | (go_at_call 24; refine (s_spellOf _ _ ho).mono ?_; rintro e w1 ⟨rfl, hb⟩))
      go_ret
      exact ⟨rfl, hb⟩
  · have c1b : (L != 0) = true := by simpa using c1
    have c1c : 0 < L := by omega
    have hRF : R = spellOf k := by rw [← hRH.out]; simp [opSpell, hL.out, hA.out, c1b]
    subst hRF
    go_enter Tryd.func30, Tryd.ntmps30
    go_wp2_with (first | (go_at_call 66; refine (s_opLevel _ _).mono ?_; rintro e w' ⟨rfl, rfl⟩; rw [hL.out]) | (go_at_call 67; refine (s_isAssign _ _).mono ?_; rintro e w' ⟨rfl, rfl⟩; rw [hA.out]) | (go_at_call 24; refine (s_spellOf _ _ ho).mono ?_; rintro e w1 ⟨rfl, hb⟩))
    go_ret
    exact ⟨rfl, hb⟩
theorem i_opSpell (k : Int) (w : World) (ho : okI64 k) (hk : TabAt w 1 kwL) (hs : TabAt w 2 signL) : Calls Tryd.prog 31 #[.int .i64 k] w fun e w' => e = .returned (.string (opSpell k)) ∧ w = w' := by
  obtain ⟨R, hR⟩ : ∃ R, opSpell k = R := ⟨_, rfl⟩
  rw [hR]
  have hRH := Lib.hid hR
  clear hR
  have hkH := Lib.hid hk
  have hsH := Lib.hid hs
  clear hk hs
  obtain ⟨hl0, hl1⟩ := opLevel_ge k
  obtain ⟨L, hL⟩ : ∃ L, opLevel k = L := ⟨_, rfl⟩
  rw [hL] at hl0 hl1
  have hL := Lib.hid hL
  obtain ⟨a, hA⟩ : ∃ a, isAssignB k = a := ⟨_, rfl⟩
  have hA := Lib.hid hA
  by_cases c1 : L = 0
  · have c1b : (L != 0) = false := by simpa using c1
    have c1c : ¬ 0 < L := by omega
    have c1H := Lib.hid c1
    clear c1
    cases a
    · skip
      cases c3 : k == 61
      · skip
        cases c4 : k == 51
        · skip
          cases c5 : k == 52
          · skip
            have hRF : R = ⟨#[]⟩ := by rw [← hRH.out]; simp [opSpell, hL.out, hA.out, c1H.out, c3, c4, c5, bs]
            subst hRF
            go_enter Tryd.func31, Tryd.ntmps31
            go_wp2_with (first | (go_at_call 68; refine (i_opLevel _ _).mono ?_; rintro e w' ⟨rfl, rfl⟩; rw [hL.out]) | (go_at_call 69; refine (i_isAssign _ _).mono ?_; rintro e w' ⟨rfl, rfl⟩; rw [hA.out]) | (go_at_call 25; refine (i_spellOf _ _ ho hkH.out hsH.out).mono ?_; rintro e w' ⟨rfl, rfl⟩) | (go_at_call 70; refine (i_isStep _ _).mono ?_; rintro e w' ⟨rfl, rfl⟩))
            go_ret
            exact ⟨rfl, rfl⟩
          · skip
            have hRF : R = spellOf k := by rw [← hRH.out]; simp [opSpell, hL.out, hA.out, c5]
            subst hRF
            go_enter Tryd.func31, Tryd.ntmps31
            go_wp2_with (first | (go_at_call 68; refine (i_opLevel _ _).mono ?_; rintro e w' ⟨rfl, rfl⟩; rw [hL.out]) | (go_at_call 69; refine (i_isAssign _ _).mono ?_; rintro e w' ⟨rfl, rfl⟩; rw [hA.out]) | (go_at_call 25; refine (i_spellOf _ _ ho hkH.out hsH.out).mono ?_; rintro e w' ⟨rfl, rfl⟩) | (go_at_call 70; refine (i_isStep _ _).mono ?_; rintro e w' ⟨rfl, rfl⟩))
            go_ret
            exact ⟨rfl, rfl⟩
        · skip
          have hRF : R = spellOf k := by rw [← hRH.out]; simp [opSpell, hL.out, hA.out, c4]
          subst hRF
          go_enter Tryd.func31, Tryd.ntmps31
          go_wp2_with (first | (go_at_call 68; refine (i_opLevel _ _).mono ?_; rintro e w' ⟨rfl, rfl⟩; rw [hL.out]) | (go_at_call 69; refine (i_isAssign _ _).mono ?_; rintro e w' ⟨rfl, rfl⟩; rw [hA.out]) | (go_at_call 25; refine (i_spellOf _ _ ho hkH.out hsH.out).mono ?_; rintro e w' ⟨rfl, rfl⟩) | (go_at_call 70; refine (i_isStep _ _).mono ?_; rintro e w' ⟨rfl, rfl⟩))
          go_ret
          exact ⟨rfl, rfl⟩
      · skip
        have hRF : R = spellOf k := by rw [← hRH.out]; simp [opSpell, hL.out, hA.out, c3]
        subst hRF
        go_enter Tryd.func31, Tryd.ntmps31
        go_wp2_with (first | (go_at_call 68; refine (i_opLevel _ _).mono ?_; rintro e w' ⟨rfl, rfl⟩; rw [hL.out]) | (go_at_call 69; refine (i_isAssign _ _).mono ?_; rintro e w' ⟨rfl, rfl⟩; rw [hA.out]) | (go_at_call 25; refine (i_spellOf _ _ ho hkH.out hsH.out).mono ?_; rintro e w' ⟨rfl, rfl⟩) | (go_at_call 70; refine (i_isStep _ _).mono ?_; rintro e w' ⟨rfl, rfl⟩))
        go_ret
        exact ⟨rfl, rfl⟩
    · skip
      have hRF : R = spellOf k := by rw [← hRH.out]; simp [opSpell, hL.out, hA.out, c1b]
      subst hRF
      go_enter Tryd.func31, Tryd.ntmps31
      go_wp2_with (first | (go_at_call 68; refine (i_opLevel _ _).mono ?_; rintro e w' ⟨rfl, rfl⟩; rw [hL.out]) | (go_at_call 69; refine (i_isAssign _ _).mono ?_; rintro e w' ⟨rfl, rfl⟩; rw [hA.out]) | (go_at_call 25; refine (i_spellOf _ _ ho hkH.out hsH.out).mono ?_; rintro e w' ⟨rfl, rfl⟩) | (go_at_call 70; refine (i_isStep _ _).mono ?_; rintro e w' ⟨rfl, rfl⟩))
      go_ret
      exact ⟨rfl, rfl⟩
  · have c1b : (L != 0) = true := by simpa using c1
    have c1c : 0 < L := by omega
    have hRF : R = spellOf k := by rw [← hRH.out]; simp [opSpell, hL.out, hA.out, c1b]
    subst hRF
    go_enter Tryd.func31, Tryd.ntmps31
    go_wp2_with (first | (go_at_call 68; refine (i_opLevel _ _).mono ?_; rintro e w' ⟨rfl, rfl⟩; rw [hL.out]) | (go_at_call 69; refine (i_isAssign _ _).mono ?_; rintro e w' ⟨rfl, rfl⟩; rw [hA.out]) | (go_at_call 25; refine (i_spellOf _ _ ho hkH.out hsH.out).mono ?_; rintro e w' ⟨rfl, rfl⟩) | (go_at_call 70; refine (i_isStep _ _).mono ?_; rintro e w' ⟨rfl, rfl⟩))
    go_ret
    exact ⟨rfl, rfl⟩
theorem l_IsBuiltin (a0 : ByteArray) (w : World) (t0 : TabAt w 0 biL) (w0 : a0.size ≤ maxLen) : Calls Tryd.prog 5 #[.string a0] w fun e w' => e = .returned (.bool true) ∧ Below w.heap.size w w' := by
  have t0H := Lib.hid t0
  clear t0
  by_cases hs : a0.size ≤ 1048576
  · go_enter Tryd.func5, Tryd.ntmps5
    go_wp2_with fail
    refine (s_isBuiltin _ _).mono ?_
    rintro e w1 ⟨rfl, hb⟩
    have t0W := Lib.hid (t0H.out.later hb)
    go_wp2_with fail
    refine (i_isBuiltin _ _ t0W.out).mono ?_
    rintro e w2 ⟨rfl, rfl⟩
    go_wp2_with fail
    go_ret
    exact ⟨rfl, hb⟩
  · go_enter Tryd.func5, Tryd.ntmps5
    go_wp2_with fail
    go_ret
    exact ⟨rfl, Below.refl _ _⟩
theorem l_KeywordOf (a0 : ByteArray) (w : World) (t0 : TabAt w 1 kwL) (w0 : a0.size ≤ maxLen) : Calls Tryd.prog 7 #[.string a0] w fun e w' => e = .returned (.bool true) ∧ Below w.heap.size w w' := by
  have t0H := Lib.hid t0
  clear t0
  by_cases hs : a0.size ≤ 1048576
  · go_enter Tryd.func7, Tryd.ntmps7
    go_wp2_with fail
    refine (s_keywordOf _ _).mono ?_
    rintro e w1 ⟨rfl, hb⟩
    have t0W := Lib.hid (t0H.out.later hb)
    go_wp2_with fail
    refine (i_keywordOf _ _ t0W.out).mono ?_
    rintro e w2 ⟨rfl, rfl⟩
    go_wp2_with fail
    go_ret
    exact ⟨rfl, hb⟩
  · go_enter Tryd.func7, Tryd.ntmps7
    go_wp2_with fail
    go_ret
    exact ⟨rfl, Below.refl _ _⟩
theorem l_NameOk (a0 : ByteArray) (w : World) (t0 : TabAt w 1 kwL) (t1 : TabAt w 0 biL) (w0 : a0.size ≤ maxLen) : Calls Tryd.prog 8 #[.string a0] w fun e w' => e = .returned (.bool true) ∧ Below w.heap.size w w' := by
  have t0H := Lib.hid t0
  clear t0
  have t1H := Lib.hid t1
  clear t1
  by_cases hs : a0.size ≤ 1048576
  · go_enter Tryd.func8, Tryd.ntmps8
    go_wp2_with fail
    refine (s_nameOk _ _ (by omega)).mono ?_
    rintro e w1 ⟨rfl, hb⟩
    have t0W := Lib.hid (t0H.out.later hb)
    have t1W := Lib.hid (t1H.out.later hb)
    go_wp2_with fail
    refine (i_nameOk _ _ (by omega) t0W.out t1W.out).mono ?_
    rintro e w2 ⟨rfl, rfl⟩
    go_wp2_with fail
    go_ret
    exact ⟨rfl, hb⟩
  · go_enter Tryd.func8, Tryd.ntmps8
    go_wp2_with fail
    go_ret
    exact ⟨rfl, Below.refl _ _⟩
theorem l_SpellOf (a0 : Int) (w : World) (t0 : TabAt w 1 kwL) (t1 : TabAt w 2 signL) (w0 : (Lit.int .i64 a0).wf = true) : Calls Tryd.prog 6 #[.int .i64 a0] w fun e w' => e = .returned (.bool true) ∧ Below w.heap.size w w' := by
  have t0H := Lib.hid t0
  clear t0
  have t1H := Lib.hid t1
  clear t1
  have o0 := Lib.hid (ok64 w0)
  go_enter Tryd.func6, Tryd.ntmps6
  go_wp2_with fail
  refine (s_spellOf _ _ o0.out).mono ?_
  rintro e w1 ⟨rfl, hb⟩
  have t0W := Lib.hid (t0H.out.later hb)
  have t1W := Lib.hid (t1H.out.later hb)
  go_wp2_with fail
  refine (i_spellOf _ _ o0.out t0W.out t1W.out).mono ?_
  rintro e w2 ⟨rfl, rfl⟩
  go_wp2_with fail
  go_ret
  exact ⟨rfl, hb⟩
theorem l_OpSpell (a0 : Int) (w : World) (t0 : TabAt w 1 kwL) (t1 : TabAt w 2 signL) (w0 : (Lit.int .i64 a0).wf = true) : Calls Tryd.prog 9 #[.int .i64 a0] w fun e w' => e = .returned (.bool true) ∧ Below w.heap.size w w' := by
  have t0H := Lib.hid t0
  clear t0
  have t1H := Lib.hid t1
  clear t1
  have o0 := Lib.hid (ok64 w0)
  go_enter Tryd.func9, Tryd.ntmps9
  go_wp2_with fail
  refine (s_opSpell _ _ o0.out).mono ?_
  rintro e w1 ⟨rfl, hb⟩
  have t0W := Lib.hid (t0H.out.later hb)
  have t1W := Lib.hid (t1H.out.later hb)
  go_wp2_with fail
  refine (i_opSpell _ _ o0.out t0W.out t1W.out).mono ?_
  rintro e w2 ⟨rfl, rfl⟩
  go_wp2_with fail
  go_ret
  exact ⟨rfl, hb⟩
end Go.Proofs.YtgcpbigaajeleaaDoor
