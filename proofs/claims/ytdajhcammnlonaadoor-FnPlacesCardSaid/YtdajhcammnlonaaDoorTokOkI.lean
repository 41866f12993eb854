/- Whether a token is valid, in the program (walk). -/
import Derived.Test.YtdajhcammnlonaaDoorTokOk
namespace Go.Proofs.YtdajhcammnlonaaDoor
open Go.RowKit
set_option linter.unusedVariables false
theorem flip_w {P : Program} {f : FuncId} {args : Array Value} {w : World} {v : Value} (h : Calls P f args w fun e w' => e = .returned v ∧ w = w') : Calls P f args w fun e w' => e = .returned v ∧ w' = w :=
  h.mono fun e w' h => ⟨h.1, h.2.symm⟩
set_option maxRecDepth 100000 in
set_option maxHeartbeats 1000000 in
theorem i_tokenOk (k : Int) (t : ByteArray) (p : Int) (w : World) (hk : okI64 k) (ht : t.size ≤ 16777216) (t0 : TabAt w 0 kwL) (t1 : TabAt w 1 signL) (t2 : TabAt w 2 biL) :
    Calls Tryd.prog 23 #[.agg #[.int .i64 k, .string t, .int .i64 p]] w fun e w' => e = .returned (.bool (tokenOkB ⟨k, t, p⟩)) ∧ Below w.heap.size w w' := by
  by_cases h0 : t.size = 0
  · obtain rfl : t = ⟨#[]⟩ := tok_empty h0
    clear h0
    rw [tokenOkB_empty]
    have t0H := Lib.hid t0
    clear t0 t1 t2
    go_enter Tryd.func23, Tryd.ntmps23
    go_wp2_with fail
    go_ret
    exact ⟨rfl, (Below.refl _ _).alloc (Nat.le_refl _) _⟩
  · have hpos : 0 < t.size := by omega
    have hb0 := Lib.hid (first_at hpos)
    have hne : (t.toList == []) = false := by
      rw [ByteArray.toList_eq, beq_eq_false_iff_ne]
      intro c
      exact h0 (by rw [← ByteArray.size_data, ← Array.length_toList, c]; rfl)
    obtain ⟨c0, c1, c2, hb, hlt⟩ := tok_box w (.int .i64 k) (.string t) (.int .i64 p) 36
    have x0 := Lib.hid (t0.later hb)
    have x1 := Lib.hid (t1.later hb)
    have x2 := Lib.hid (t2.later hb)
    have hbH := Lib.hid hb
    clear c0 c1 c2 hb hlt t0 t1 t2
    revert hk x0 x1 x2 hbH
    refine tok_cases k (fun k => okI64 k → Hid (TabAt (w.alloc (.cells #[.int .i64 k, .string t, .int .i64 p] 36)) 0 kwL) → Hid (TabAt (w.alloc (.cells #[.int .i64 k, .string t, .int .i64 p] 36)) 1 signL) → Hid (TabAt (w.alloc (.cells #[.int .i64 k, .string t, .int .i64 p] 36)) 2 biL) → Hid (Below w.heap.size w (w.alloc (.cells #[.int .i64 k, .string t, .int .i64 p] 36))) → Calls Tryd.prog 23 #[.agg #[.int .i64 k, .string t, .int .i64 p]] w fun e w' => e = .returned (.bool (tokenOkB ⟨k, t, p⟩)) ∧ Below w.heap.size w w') ?_ ?_ ?_ ?_ ?_ ?_ ?_ ?_
    · intro _ x0 x1 x2 hb
      rw [tokenOkB_2 p h0, hb0.out]
      cases hx : ((t[0]'hpos).toNat : Int) == 35
      · rw [Bool.false_and]
        go_enter Tryd.func23, Tryd.ntmps23
        go_wp2_with fail
        go_ret
        exact ⟨rfl, hb.out⟩
      · rw [Bool.true_and]
        go_enter Tryd.func23, Tryd.ntmps23
        go_wp2_with (go_at_call 82; refine (i_contains _ _).mono ?_; rintro e w' ⟨rfl, rfl⟩)
        go_ret
        exact ⟨ret_bool (by simp), hb.out⟩
    · intro _ x0 x1 x2 hb
      rw [tokenOkB_3 p h0]
      go_enter Tryd.func23, Tryd.ntmps23
      go_wp2_with fail
      go_quiet ((go_at_call 21; exact Calls.quiet_of_same (flip_w (i_numEnd _ _ _ ht))))
      go_wp2_with fail
      go_ret
      exact ⟨rfl, below_drewN hb.out _⟩
    · intro _ x0 x1 x2 hb
      rw [tokenOkB_4 p h0]
      go_enter Tryd.func23, Tryd.ntmps23
      go_wp2_with fail
      go_quiet ((go_at_call 25; exact Calls.quiet_of_same (flip_w (i_strEnd _ _ _ ht))))
      go_wp2_with fail
      go_ret
      exact ⟨rfl, below_drewN hb.out _⟩
    · intro _ x0 x1 x2 hb
      rw [tokenOkB_5 p h0]
      go_enter Tryd.func23, Tryd.ntmps23
      go_wp2_with fail
      go_quiet ((go_at_call 83; exact Calls.quiet_of_same (flip_w (i_ereEnd _ _ _ ht))))
      go_wp2_with fail
      go_ret
      exact ⟨rfl, below_drewN hb.out _⟩
    · intro _ x0 x1 x2 hb
      rw [tokenOkB_6 p h0]
      go_enter Tryd.func23, Tryd.ntmps23
      go_wp2_with (go_at_call 14; refine (i_nameOk _ _ ht x0.out x2.out).mono ?_; rintro e w1 ⟨rfl, rfl⟩)
      go_ret
      exact ⟨rfl, hb.out⟩
    · intro _ x0 x1 x2 hb
      rw [tokenOkB_7 p h0]
      go_enter Tryd.func23, Tryd.ntmps23
      go_wp2_with (go_at_call 14; refine (i_nameOk _ _ ht x0.out x2.out).mono ?_; rintro e w1 ⟨rfl, rfl⟩)
      go_ret
      exact ⟨rfl, hb.out⟩
    · intro _ x0 x1 x2 hb
      rw [tokenOkB_8 p h0]
      go_enter Tryd.func23, Tryd.ntmps23
      go_wp2_with (go_at_call 18; refine (i_isBuiltin _ _ x2.out).mono ?_; rintro e w1 ⟨rfl, rfl⟩)
      go_ret
      exact ⟨rfl, hb.out⟩
    · intro q2 q3 q4 q5 q6 q7 q8 hk x0 x1 x2 hb
      rw [tokenOkB_no p h0 q2 q3 q4 q5 q6 q7 q8]
      have hkH := Lib.hid hk
      clear hk
      go_enter Tryd.func23, Tryd.ntmps23
      go_wp2_with fail
      go_quiet ((go_at_call 11; exact Calls.quiet_of_same (flip_w (i_spellOf _ _ hkH.out x0.out x1.out))))
      go_wp2_with fail
      go_ret
      exact ⟨rfl, below_drewN hb.out _⟩
end Go.Proofs.YtdajhcammnlonaaDoor
