/- Several texts in one (printed by a program): TokOkI, Five. -/
import Derived.Test.YtlabmboedjnpmaaGreatDoorTokOk
import Derived.Test.YtlabmboedjnpmaaGreatDoorMemR
/-! TokOkI -/
namespace Go.Proofs.YtlabmboedjnpmaaGreatDoor
open Go.RowKit
set_option linter.unusedVariables false
theorem flip_w {P : Program} {f : FuncId} {args : Array Value} {w : World} {v : Value} (h : Calls P f args w fun e w' => e = .returned v ∧ w = w') : Calls P f args w fun e w' => e = .returned v ∧ w' = w :=
  h.mono fun e w' h => ⟨h.1, h.2.symm⟩
set_option maxRecDepth 100000 in
set_option maxHeartbeats 1000000 in
theorem i_tokenOk (k : Int) (t : ByteArray) (p : Int) (w : World) (hk : okI64 k) (ht : t.size ≤ 16777216) (t0 : TabAt w 1 kwL) (t1 : TabAt w 2 signL) (t2 : TabAt w 0 biL) :
    Calls Tryz.prog 49 #[.agg #[.int .i64 k, .string t, .int .i64 p]] w fun e w' => e = .returned (.bool (tokenOkB ⟨k, t, p⟩)) ∧ Below w.heap.size w w' := by
  by_cases h0 : t.size = 0
  · obtain rfl : t = ⟨#[]⟩ := tok_empty h0
    clear h0
    rw [tokenOkB_empty]
    have t0H := Lib.hid t0
    clear t0 t1 t2
    go_enter Tryz.func49, Tryz.ntmps49
    go_wp2_with fail
    go_ret
    exact ⟨rfl, (Below.refl _ _).alloc (Nat.le_refl _) _⟩
  · have hpos : 0 < t.size := by omega
    have hb0 := Lib.hid (first_at hpos)
    have hne : (t.toList == []) = false := by
      rw [ByteArray.toList_eq, beq_eq_false_iff_ne]
      intro c
      exact h0 (by rw [← ByteArray.size_data, ← Array.length_toList, c]; rfl)
    obtain ⟨c0, c1, c2, hb, hlt⟩ := tok_box w (.int .i64 k) (.string t) (.int .i64 p) 64
    have x0 := Lib.hid (t0.later hb)
    have x1 := Lib.hid (t1.later hb)
    have x2 := Lib.hid (t2.later hb)
    have hbH := Lib.hid hb
    clear c0 c1 c2 hb hlt t0 t1 t2
    revert hk x0 x1 x2 hbH
    refine tok_cases k (fun k => okI64 k → Hid (TabAt (w.alloc (.cells #[.int .i64 k, .string t, .int .i64 p] 64)) 1 kwL) → Hid (TabAt (w.alloc (.cells #[.int .i64 k, .string t, .int .i64 p] 64)) 2 signL) → Hid (TabAt (w.alloc (.cells #[.int .i64 k, .string t, .int .i64 p] 64)) 0 biL) → Hid (Below w.heap.size w (w.alloc (.cells #[.int .i64 k, .string t, .int .i64 p] 64))) → Calls Tryz.prog 49 #[.agg #[.int .i64 k, .string t, .int .i64 p]] w fun e w' => e = .returned (.bool (tokenOkB ⟨k, t, p⟩)) ∧ Below w.heap.size w w') ?_ ?_ ?_ ?_ ?_ ?_ ?_ ?_
    · intro _ x0 x1 x2 hb
      rw [tokenOkB_2 p h0, hb0.out]
      cases hx : ((t[0]'hpos).toNat : Int) == 35
      · rw [Bool.false_and]
        go_enter Tryz.func49, Tryz.ntmps49
        go_wp2_with fail
        go_ret
        exact ⟨rfl, hb.out⟩
      · rw [Bool.true_and]
        go_enter Tryz.func49, Tryz.ntmps49
        go_wp2_with (go_at_call 67; refine (i_contains _ _).mono ?_; rintro e w' ⟨rfl, rfl⟩)
        go_ret
        exact ⟨ret_bool (by simp), hb.out⟩
    · intro _ x0 x1 x2 hb
      rw [tokenOkB_3 p h0]
      go_enter Tryz.func49, Tryz.ntmps49
      go_wp2_with fail
      go_quiet ((go_at_call 68; exact Calls.quiet_of_same (flip_w (i_numEnd _ _ _ ht))))
      go_wp2_with fail
      go_ret
      exact ⟨rfl, below_drewN hb.out _⟩
    · intro _ x0 x1 x2 hb
      rw [tokenOkB_4 p h0]
      go_enter Tryz.func49, Tryz.ntmps49
      go_wp2_with fail
      go_quiet ((go_at_call 69; exact Calls.quiet_of_same (flip_w (i_strEnd _ _ _ ht))))
      go_wp2_with fail
      go_ret
      exact ⟨rfl, below_drewN hb.out _⟩
    · intro _ x0 x1 x2 hb
      rw [tokenOkB_5 p h0]
      go_enter Tryz.func49, Tryz.ntmps49
      go_wp2_with fail
      go_quiet ((go_at_call 70; exact Calls.quiet_of_same (flip_w (i_ereEnd _ _ _ ht))))
      go_wp2_with fail
      go_ret
      exact ⟨rfl, below_drewN hb.out _⟩
    · intro _ x0 x1 x2 hb
      rw [tokenOkB_6 p h0]
      go_enter Tryz.func49, Tryz.ntmps49
      go_wp2_with (go_at_call 48; refine (i_nameOk _ _ ht x0.out x2.out).mono ?_; rintro e w1 ⟨rfl, rfl⟩)
      go_ret
      exact ⟨rfl, hb.out⟩
    · intro _ x0 x1 x2 hb
      rw [tokenOkB_7 p h0]
      go_enter Tryz.func49, Tryz.ntmps49
      go_wp2_with (go_at_call 48; refine (i_nameOk _ _ ht x0.out x2.out).mono ?_; rintro e w1 ⟨rfl, rfl⟩)
      go_ret
      exact ⟨rfl, hb.out⟩
    · intro _ x0 x1 x2 hb
      rw [tokenOkB_8 p h0]
      go_enter Tryz.func49, Tryz.ntmps49
      go_wp2_with (go_at_call 50; refine (i_isBuiltin _ _ x2.out).mono ?_; rintro e w1 ⟨rfl, rfl⟩)
      go_ret
      exact ⟨rfl, hb.out⟩
    · intro q2 q3 q4 q5 q6 q7 q8 hk x0 x1 x2 hb
      rw [tokenOkB_no p h0 q2 q3 q4 q5 q6 q7 q8]
      have hkH := Lib.hid hk
      clear hk
      go_enter Tryz.func49, Tryz.ntmps49
      go_wp2_with fail
      go_quiet ((go_at_call 71; exact Calls.quiet_of_same (flip_w (i_spellOf _ _ hkH.out x0.out x1.out))))
      go_wp2_with fail
      go_ret
      exact ⟨rfl, below_drewN hb.out _⟩
end Go.Proofs.YtlabmboedjnpmaaGreatDoor
/-! Five -/
namespace Go.Proofs.YtlabmboedjnpmaaGreatDoor
open Go.RowKit
def Five (W : World) (g : Nat) (a b c d e : Value) : Prop := W.cell? ⟨g, 0, none⟩ = some a ∧ W.cell? ⟨g, 1, none⟩ = some b ∧ W.cell? ⟨g, 2, none⟩ = some c ∧ W.cell? ⟨g, 3, none⟩ = some d ∧ W.cell? ⟨g, 4, none⟩ = some e
theorem Five.keep {W W' : World} {B g : Nat} {a b c d e : Value} (h : Five W g a b c d e) (hb : Below B W W') (hg : g < B) : Five W' g a b c d e := by
  have k : ∀ o, W'.cell? ⟨g, o, none⟩ = W.cell? ⟨g, o, none⟩ := fun o => hb.cell (p := ⟨g, o, none⟩) hg
  unfold Five
  simp only [k]
  exact h
theorem Five.made (W : World) (a b c d e : Value) (t : TypeId) : Five (W.alloc (.cells #[a, b, c, d, e] t)) W.heap.size a b c d e :=
  ⟨(Has.made W t _).get rfl, (Has.made W t _).get rfl, (Has.made W t _).get rfl, (Has.made W t _).get rfl, (Has.made W t _).get rfl⟩
end Go.Proofs.YtlabmboedjnpmaaGreatDoor
