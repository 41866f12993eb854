/- The tables of words in the program (walks), and the walks of the laws on them. -/
import Derived.Test.YtdajhcammnlonaaDoorTabs
namespace Go.Proofs.YtdajhcammnlonaaDoor
open Go.RowKit
set_option linter.unusedVariables false

theorem findIx_dec (l : List (List UInt8)) (s : ByteArray) : decide (0 ≤ findIx l s) = !decide (findIx l s < 0) := by
  by_cases h : findIx l s < 0
  · rw [decide_eq_true h, decide_eq_false (by omega)]; rfl
  · rw [decide_eq_false h, decide_eq_true (by omega)]; rfl
theorem i_containsStr (g : Nat) (l : List (List UInt8)) (s : ByteArray) (w : World) (hl : l.length ≤ 1000) (h : TabAt w g l) : Calls Tryd.prog 70 #[.slice (some ⟨g, 0, none⟩) l.length l.length, .string s] w fun e w' => e = .returned (.bool (decide (0 ≤ findIx l s))) ∧ w = w' := by
  have hH := Lib.hid h
  clear h
  go_enter Tryd.func70, Tryd.ntmps70
  go_wp2_with (go_at_call 61; refine (i_indexStr _ l _ _ hl hH.out).mono ?_; rintro e w' ⟨rfl, rfl⟩)
  go_ret
  exact ⟨rfl, rfl⟩
theorem i_isBuiltin (s : ByteArray) (w : World) (h : TabAt w 2 biL) : Calls Tryd.prog 18 #[.string s] w fun e w' => e = .returned (.bool (isBuiltinB s)) ∧ w = w' := by
  have hF := Lib.hid (show isBuiltinB s = decide (0 ≤ findIx biL s) from rfl)
  have hH := Lib.hid h
  clear h
  go_enter Tryd.func18, Tryd.ntmps18
  go_wp2_with (go_at_call 70; refine (i_containsStr _ biL _ _ (by decide) hH.out).mono ?_; rintro e w' ⟨rfl, rfl⟩)
  go_ret
  exact ⟨ret_bool (by rw [hF.out]), rfl⟩
theorem i_keywordOf (s : ByteArray) (w : World) (h : TabAt w 0 kwL) : Calls Tryd.prog 13 #[.string s] w fun e w' => e = .returned (.int .i64 (keywordOf s)) ∧ w = w' := by
  have hr := findIx_range kwL s
  have e17 : kwL.length = 17 := rfl
  rw [e17] at hr
  clear e17
  obtain ⟨K, hK⟩ : ∃ K, findIx kwL s = K := ⟨_, rfl⟩
  have hF := Lib.hid (show keywordOf s = if K < 0 then 0 else 10 + K by unfold keywordOf; rw [hK])
  have hKH := Lib.hid hK
  rw [hK] at hr
  have hH := Lib.hid h
  clear hK h
  by_cases hneg : K < 0
  · go_enter Tryd.func13, Tryd.ntmps13
    go_wp2_with (go_at_call 61; refine (i_indexStr _ kwL _ _ (by decide) hH.out).mono ?_; rintro e w' ⟨rfl, rfl⟩; rw [hKH.out])
    go_ret
    exact ⟨ret_int (by rw [hF.out, if_pos hneg]), rfl⟩
  · go_enter Tryd.func13, Tryd.ntmps13
    go_wp2_with (go_at_call 61; refine (i_indexStr _ kwL _ _ (by decide) hH.out).mono ?_; rintro e w' ⟨rfl, rfl⟩; rw [hKH.out])
    go_ret
    exact ⟨ret_int (by rw [hF.out, if_neg (by omega)]), rfl⟩
theorem i_nameOk (s : ByteArray) (w : World) (hs : s.size ≤ 16777216) (hk : TabAt w 0 kwL) (hb : TabAt w 2 biL) : Calls Tryd.prog 14 #[.string s] w fun e w' => e = .returned (.bool (nameOkB s)) ∧ w = w' := by
  obtain ⟨R, hR⟩ : ∃ R, nameOkB s = R := ⟨_, rfl⟩
  rw [hR]
  have hRH := Lib.hid hR
  have hkH := Lib.hid hk
  have hbH := Lib.hid hb
  clear hR hk hb
  cases h1 : nameShape s
  · have hRF : R = false := by rw [← hRH.out, nameOkB, h1]; rfl
    subst hRF
    go_enter Tryd.func14, Tryd.ntmps14
    go_wp2_with (go_at_call 17; refine (i_nameShape _ _ hs).mono ?_; rintro e w' ⟨rfl, rfl⟩)
    go_ret
    exact ⟨rfl, rfl⟩
  · cases h2 : keywordOf s == 0
    · have hRF : R = false := by rw [← hRH.out, nameOkB, h1, h2]; rfl
      subst hRF
      go_enter Tryd.func14, Tryd.ntmps14
      go_wp2_with (first | (go_at_call 17; refine (i_nameShape _ _ hs).mono ?_; rintro e w' ⟨rfl, rfl⟩) | (go_at_call 13; refine (i_keywordOf _ _ hkH.out).mono ?_; rintro e w1 ⟨rfl, rfl⟩))
      go_ret
      exact ⟨rfl, rfl⟩
    · have h2H := Lib.hid (eq_of_beq h2)
      have hRF : R = !isBuiltinB s := by rw [← hRH.out, nameOkB, h1, h2]; rfl
      subst hRF
      clear h2
      go_enter Tryd.func14, Tryd.ntmps14
      go_wp2_with (first | (go_at_call 17; refine (i_nameShape _ _ hs).mono ?_; rintro e w' ⟨rfl, rfl⟩) | (go_at_call 13; refine (i_keywordOf _ _ hkH.out).mono ?_; rintro e w1 ⟨rfl, rfl⟩; rw [h2H.out]) | (go_at_call 18; refine (i_isBuiltin _ _ hbH.out).mono ?_; rintro e w2 ⟨rfl, rfl⟩))
      go_ret
      exact ⟨rfl, rfl⟩
theorem i_isKeywordKind (k : Int) (w : World) : Calls Tryd.prog 56 #[.int .i64 k] w fun e w' => e = .returned (.bool (inB k 10 26)) ∧ w = w' := by
  go_enter Tryd.func56, Tryd.ntmps56
  go_wp2_with (go_at_call 62; refine (i_within _ _ _ _).mono ?_; rintro e w' ⟨rfl, rfl⟩)
  go_ret
  exact ⟨rfl, rfl⟩
theorem i_isSignKind (k : Int) (w : World) : Calls Tryd.prog 57 #[.int .i64 k] w fun e w' => e = .returned (.bool (inB k 30 68)) ∧ w = w' := by
  go_enter Tryd.func57, Tryd.ntmps57
  go_wp2_with (go_at_call 62; refine (i_within _ _ _ _).mono ?_; rintro e w' ⟨rfl, rfl⟩)
  go_ret
  exact ⟨rfl, rfl⟩
theorem i_spellOf (k : Int) (w : World) (ho : okI64 k) (hk : TabAt w 0 kwL) (hs : TabAt w 1 signL) : Calls Tryd.prog 11 #[.int .i64 k] w fun e w' => e = .returned (.string (spellOf k)) ∧ w = w' := by
  obtain ⟨ho1, ho2⟩ := ho
  have hkH := Lib.hid hk
  have hsH := Lib.hid hs
  clear hk hs
  refine kind_cases k (fun k => Calls Tryd.prog 11 #[.int .i64 k] w fun e w' => e = .returned (.string (spellOf k)) ∧ w = w') ?_ ?_ ?_ ?_
  · go_enter Tryd.func11, Tryd.ntmps11
    go_wp2_with fail
    go_ret
    exact ⟨rfl, rfl⟩
  · intro j x hj hx
    rw [spellOf_kw hx]
    have q1 : ((j : Int) + 10 == 1) = false := by rw [beq_eq_false_iff_ne]; omega
    have q2 : inB ((j : Int) + 10) 10 26 = true := inB_true.2 (by omega)
    have hc := hkH.out.2 j x hx
    clear hx
    go_enter Tryd.func11, Tryd.ntmps11
    go_wp2_with (go_at_call 56; refine (i_isKeywordKind _ _).mono ?_; rintro e w' ⟨rfl, rfl⟩)
    go_ret
    exact ⟨rfl, rfl⟩
  · intro j x hj hx
    rw [spellOf_sg hx]
    have q1 : ((j : Int) + 30 == 1) = false := by rw [beq_eq_false_iff_ne]; omega
    have q2 : inB ((j : Int) + 30) 10 26 = false := by rw [inB_false]; omega
    have q3 : inB ((j : Int) + 30) 30 68 = true := inB_true.2 (by omega)
    have hc := hsH.out.2 j x hx
    clear hx
    go_enter Tryd.func11, Tryd.ntmps11
    go_wp2_with (first | (go_at_call 56; refine (i_isKeywordKind _ _).mono ?_; rintro e w' ⟨rfl, rfl⟩) | (go_at_call 57; refine (i_isSignKind _ _).mono ?_; rintro e w' ⟨rfl, rfl⟩))
    go_ret
    exact ⟨rfl, rfl⟩
  · intro q1 q2 q3
    rw [spellOf_no q1 q2 q3]
    go_enter Tryd.func11, Tryd.ntmps11
    go_wp2_with (first | (go_at_call 56; refine (i_isKeywordKind _ _).mono ?_; rintro e w' ⟨rfl, rfl⟩) | (go_at_call 57; refine (i_isSignKind _ _).mono ?_; rintro e w' ⟨rfl, rfl⟩))
    go_ret
    exact ⟨rfl, rfl⟩
end Go.Proofs.YtdajhcammnlonaaDoor
