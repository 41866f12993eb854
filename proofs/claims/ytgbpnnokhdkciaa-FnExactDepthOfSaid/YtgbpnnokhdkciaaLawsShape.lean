/- ShapeOk, StartOf of the program, and the walks of their laws. -/
import Derived.Test.YtgbpnnokhdkciaaShapeI
import Derived.Test.YtgbpnnokhdkciaaLawsKind
namespace Go.Proofs.Ytgbpnnokhdkciaa
open Go.RowKit
set_option linter.unusedVariables false

set_option maxRecDepth 100000 in
set_option maxHeartbeats 1000000 in
theorem i_shapeOk (v : Value) (l : List PNode) (w : World) (h : NodesIn w w.heap.size v l) : Calls Try.prog 81 #[v] w (RetBool w (shapeB l)) := by
  have g := Lib.hid h
  obtain ⟨A, c, rfl, hlc, hcm, r⟩ := h
  clear r
  unfold maxLen at hcm
  go_enter Try.func81, Try.ntmps81
  go_wp2_with (go_at_call 122; refine (i_startsOf _ l _ g.out).mono ?_; rintro e w1 ⟨v', rfl, _, _, hb⟩)
  go_ret
  exact ⟨rfl, hb⟩
set_option maxRecDepth 100000 in
set_option maxHeartbeats 1000000 in
theorem i_startOf (v : Value) (l : List PNode) (i : Int) (w : World) (hi0 : okInt i) (h : NodesIn w w.heap.size v l) : Calls Try.prog 83 #[v, .int .i64 i] w (RetInt w (startOfL l i)) := by
  have g := Lib.hid h
  obtain ⟨A, c, rfl, hlc, hcm, r⟩ := h
  clear r
  unfold maxLen at hcm
  obtain ⟨hi1, hi2⟩ := hi0
  cases hs : shapeB l
  · rw [startOfL_no (by rw [hs]; simp)]
    have hsH := Lib.hid hs
    clear hs
    go_enter Try.func83, Try.ntmps83
    go_wp2_with (go_at_call 122; refine (i_startsOf _ l _ g.out).mono ?_; rintro e w1 ⟨v', rfl, _, _, hb⟩; rw [hsH.out])
    go_ret
    exact ⟨rfl, hb⟩
  · obtain ⟨hl1, hl2, s, hst, h0⟩ := shapeB_parts hs
    have hsH := Lib.hid hs
    clear hs h0
    cases hin : inB i 0 ((l.length : Int) - 1)
    · have hnot := inB_false.1 hin
      rw [startOfL_no (by omega)]
      go_enter Try.func83, Try.ntmps83
      go_wp2_with (first | (go_at_call 122; refine (i_startsOf _ l _ g.out).mono ?_; rintro e w1 ⟨v', rfl, _, _, hb⟩; rw [hsH.out]) | (go_at_call 93; refine (i_within _ _ _ _).mono ?_; rintro e w' ⟨rfl, rfl⟩))
      go_ret
      exact ⟨rfl, hb⟩
    · obtain ⟨hr1, hr2⟩ := inB_true.1 hin
      obtain ⟨k, rfl⟩ := Int.eq_ofNat_of_zero_le hr1
      have hk : k < l.length := by omega
      obtain ⟨hlow, hlen⟩ := startsL_low hst
      obtain ⟨x, hx, hxd, hxl⟩ := hlow.get (j := k) (by omega)
      rw [startOfL_yes hsH.out hk hst, hxd]
      have hcx := Lib.hid (castL_get hx)
      have hstH := Lib.hid hst
      have hlenH := Lib.hid (show (castL s).length = l.length by rw [castL_len, hlen])
      clear hst hx hxd hlow hlen hxl
      go_enter Try.func83, Try.ntmps83
      go_wp2_with (first | (go_at_call 122; refine (i_startsOf _ l _ g.out).mono ?_; rintro e w1 ⟨v', rfl, hii, _, hb⟩; have hi := hii s hsH.out hstH.out; clear hii; rw [hsH.out]; obtain ⟨A1, c1, rfl, q1, q2, r⟩ := hi; rw [hlenH.out] at q1 r ⊢; obtain ⟨b, off, rfl, _, hcell⟩ := r.1 (by omega); have hce := hcell _ _ hcx.out; clear r hcell; unfold maxLen at q2) | (go_at_call 93; refine (i_within _ _ _ _).mono ?_; rintro e w' ⟨rfl, rfl⟩))
      go_ret
      exact ⟨rfl, hb⟩
set_option maxRecDepth 100000 in
set_option maxHeartbeats 1000000 in
theorem l_ShapeOk (v0 : Value) (a0 : List PNode) (w : World) (h0 : NodesIn w w.heap.size v0 a0) : Calls Try.prog 23 #[v0] w fun e w' => e = .returned (.bool true) ∧ Below w.heap.size w w' := by
  by_cases hs0 : nodesBulk a0 ≤ 1048576
  · have hz0 : nodesBulk a0 ≤ 1048576 := by omega
    obtain ⟨q0, hq0⟩ : ∃ q : Int, subB 1048576 (nodesBulk a0) = q := ⟨_, rfl⟩
    have hr0 : Hid (q0 = 1048576 - ((nodesBulk a0 : Int) : Int)) := by show _ = _; rw [← hq0, subB_ge (by omega)]
    have hb0 : 0 ≤ q0 ∧ q0 ≤ 1048576 := by have := hr0.out; omega
    go_enter Try.func23, Try.ntmps23
    go_wp2_with fail
    refine (l_szNodes _ a0 _ _ (by omega) (by omega) h0).mono ?_
    rintro e x1 ⟨rfl, b1⟩
    have c1 := b1
    rw [hq0]
    go_wp2_with fail
    refine (l_toNodes _ a0 _ hz0 ((h0.keep c1 (Nat.le_refl _)).more c1.size)).mono ?_
    rintro e x2 ⟨u0, rfl, s0, _, b2⟩
    have c2 := c1.trans (b2.mono c1.size)
    go_wp2_with fail
    refine (s_shapeOk _ a0 _ (bulk_len hz0) s0).mono ?_
    rintro e x3 ⟨rfl, b3⟩
    have c3 := c2.trans (b3.mono c2.size)
    go_wp2_with fail
    refine (l_toNodes _ a0 _ hz0 ((h0.keep c3 (Nat.le_refl _)).more c3.size)).mono ?_
    rintro e x4 ⟨y0, rfl, i0, _, b4⟩
    have c4 := c3.trans (b4.mono c3.size)
    go_wp2_with fail
    refine (i_shapeOk _ a0 _ i0).mono ?_
    rintro e x5 ⟨rfl, b5⟩
    have c5 := c4.trans (b5.mono c4.size)
    have i0 := (i0.keep b5 (Nat.le_refl _)).more b5.size
    go_wp2_with fail
    refine (l_toNodes _ a0 _ hz0 ((h0.keep c5 (Nat.le_refl _)).more c5.size)).mono ?_
    rintro e x6 ⟨z0, rfl, e0, _, b6⟩
    have c6 := c5.trans (b6.mono c5.size)
    have i0 := (i0.keep b6 (Nat.le_refl _)).more b6.size
    go_wp2_with fail
    refine (l_eqNodes _ _ a0 _ i0 e0).mono ?_
    rintro e x7 ⟨rfl, b7⟩
    have c7 := c6.trans (b7.mono c6.size)
    have i0 := (i0.keep b7 (Nat.le_refl _)).more b7.size
    go_wp2_with fail
    go_ret
    exact ⟨rfl, c7⟩
  · go_enter Try.func23, Try.ntmps23
    go_wp2_with fail
    refine (l_szNodes _ a0 _ _ (by omega) (by omega) h0).mono ?_
    rintro e x1 ⟨rfl, b1⟩
    have c1 := b1
    rw [subB_lt (by omega)]
    go_wp2_with fail
    go_ret
    exact ⟨rfl, c1⟩
set_option maxRecDepth 100000 in
set_option maxHeartbeats 1000000 in
theorem l_StartOf (v0 : Value) (a0 : List PNode) (a1 : Int) (w : World) (h0 : NodesIn w w.heap.size v0 a0) (w1 : (Lit.int .i64 a1).wf = true) : Calls Try.prog 24 #[v0, .int .i64 a1] w fun e w' => e = .returned (.bool true) ∧ Below w.heap.size w w' := by
  have k1 := okInt_of w1
  obtain ⟨_, _⟩ := k1
  by_cases hs0 : nodesBulk a0 ≤ 1048576
  · have hz0 : nodesBulk a0 ≤ 1048576 := by omega
    obtain ⟨q0, hq0⟩ : ∃ q : Int, subB 1048576 (nodesBulk a0) = q := ⟨_, rfl⟩
    have hr0 : Hid (q0 = 1048576 - ((nodesBulk a0 : Int) : Int)) := by show _ = _; rw [← hq0, subB_ge (by omega)]
    have hb0 : 0 ≤ q0 ∧ q0 ≤ 1048576 := by have := hr0.out; omega
    go_enter Try.func24, Try.ntmps24
    go_wp2_with fail
    refine (l_szNodes _ a0 _ _ (by omega) (by omega) h0).mono ?_
    rintro e x1 ⟨rfl, b1⟩
    have c1 := b1
    rw [hq0]
    go_wp2_with fail
    refine (l_toNodes _ a0 _ hz0 ((h0.keep c1 (Nat.le_refl _)).more c1.size)).mono ?_
    rintro e x2 ⟨u0, rfl, s0, _, b2⟩
    have c2 := c1.trans (b2.mono c1.size)
    go_wp2_with fail
    refine (s_startOf _ a0 a1 _ (okInt_of w1) (bulk_len hz0) s0).mono ?_
    rintro e x3 ⟨rfl, b3⟩
    have c3 := c2.trans (b3.mono c2.size)
    go_wp2_with fail
    refine (l_toNodes _ a0 _ hz0 ((h0.keep c3 (Nat.le_refl _)).more c3.size)).mono ?_
    rintro e x4 ⟨y0, rfl, i0, _, b4⟩
    have c4 := c3.trans (b4.mono c3.size)
    go_wp2_with fail
    refine (i_startOf _ a0 a1 _ (okInt_of w1) i0).mono ?_
    rintro e x5 ⟨rfl, b5⟩
    have c5 := c4.trans (b5.mono c4.size)
    have i0 := (i0.keep b5 (Nat.le_refl _)).more b5.size
    go_wp2_with fail
    refine (l_toNodes _ a0 _ hz0 ((h0.keep c5 (Nat.le_refl _)).more c5.size)).mono ?_
    rintro e x6 ⟨z0, rfl, e0, _, b6⟩
    have c6 := c5.trans (b6.mono c5.size)
    have i0 := (i0.keep b6 (Nat.le_refl _)).more b6.size
    go_wp2_with fail
    refine (l_eqNodes _ _ a0 _ i0 e0).mono ?_
    rintro e x7 ⟨rfl, b7⟩
    have c7 := c6.trans (b7.mono c6.size)
    have i0 := (i0.keep b7 (Nat.le_refl _)).more b7.size
    go_wp2_with fail
    go_ret
    exact ⟨rfl, c7⟩
  · go_enter Try.func24, Try.ntmps24
    go_wp2_with fail
    refine (l_szNodes _ a0 _ _ (by omega) (by omega) h0).mono ?_
    rintro e x1 ⟨rfl, b1⟩
    have c1 := b1
    rw [subB_lt (by omega)]
    go_wp2_with fail
    go_ret
    exact ⟨rfl, c1⟩
end Go.Proofs.Ytgbpnnokhdkciaa
