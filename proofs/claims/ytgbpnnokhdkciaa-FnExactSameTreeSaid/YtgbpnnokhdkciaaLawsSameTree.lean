/- The walk of the law on SameTree (written by mklaw3.py). -/
import Derived.Test.YtgbpnnokhdkciaaSameTreeI
namespace Go.Proofs.Ytgbpnnokhdkciaa
open Go.RowKit
set_option linter.unusedVariables false

set_option maxRecDepth 100000 in
set_option maxHeartbeats 1000000 in
theorem l_SameTree (v0 : Value) (a0 : List PNode) (v1 : Value) (a1 : List PNode) (w : World) (h0 : NodesIn w w.heap.size v0 a0) (h1 : NodesIn w w.heap.size v1 a1) : Calls Try.prog 21 #[v0, v1] w fun e w' => e = .returned (.bool true) ∧ Below w.heap.size w w' := by
  by_cases hs0 : nodesBulk a0 ≤ 1048576
  · have hz0 : nodesBulk a0 ≤ 1048576 := by omega
    obtain ⟨q0, hq0⟩ : ∃ q : Int, subB 1048576 (nodesBulk a0) = q := ⟨_, rfl⟩
    have hr0 : Hid (q0 = 1048576 - ((nodesBulk a0 : Int) : Int)) := by show _ = _; rw [← hq0, subB_ge (by omega)]
    have hb0 : 0 ≤ q0 ∧ q0 ≤ 1048576 := by have := hr0.out; omega
    by_cases hs1 : nodesBulk a0 + nodesBulk a1 ≤ 1048576
    · have hz1 : nodesBulk a1 ≤ 1048576 := by omega
      obtain ⟨q1, hq1⟩ : ∃ q : Int, subB q0 (nodesBulk a1) = q := ⟨_, rfl⟩
      have hr1 : Hid (q1 = 1048576 - ((nodesBulk a0 : Int) + (nodesBulk a1 : Int) : Int)) := by show _ = _; have := hr0.out; rw [← hq1, subB_ge (by omega)]; omega
      have hb1 : 0 ≤ q1 ∧ q1 ≤ 1048576 := by have := hr1.out; omega
      go_enter Try.func21, Try.ntmps21
      go_wp2_with fail
      refine (l_szNodes _ a0 _ _ (by omega) (by omega) h0).mono ?_
      rintro e x1 ⟨rfl, b1⟩
      have c1 := b1
      rw [hq0]
      go_wp2_with fail
      refine (l_szNodes _ a1 _ _ (by omega) (by omega) ((h1.keep c1 (Nat.le_refl _)).more c1.size)).mono ?_
      rintro e x2 ⟨rfl, b2⟩
      have c2 := c1.trans (b2.mono c1.size)
      rw [hq1]
      go_wp2_with fail
      refine (l_toNodes _ a0 _ hz0 ((h0.keep c2 (Nat.le_refl _)).more c2.size)).mono ?_
      rintro e x3 ⟨u0, rfl, s0, _, b3⟩
      have c3 := c2.trans (b3.mono c2.size)
      go_wp2_with fail
      refine (l_toNodes _ a1 _ hz1 ((h1.keep c3 (Nat.le_refl _)).more c3.size)).mono ?_
      rintro e x4 ⟨u1, rfl, s1, _, b4⟩
      have c4 := c3.trans (b4.mono c3.size)
      have s0 := (s0.keep b4 (Nat.le_refl _)).more b4.size
      go_wp2_with fail
      refine (s_sameTree _ _ a0 a1 _ s0 s1).mono ?_
      rintro e x5 ⟨rfl, b5⟩
      have c5 := c4.trans (b5.mono c4.size)
      go_wp2_with fail
      refine (l_toNodes _ a0 _ hz0 ((h0.keep c5 (Nat.le_refl _)).more c5.size)).mono ?_
      rintro e x6 ⟨y0, rfl, i0, _, b6⟩
      have c6 := c5.trans (b6.mono c5.size)
      go_wp2_with fail
      refine (l_toNodes _ a1 _ hz1 ((h1.keep c6 (Nat.le_refl _)).more c6.size)).mono ?_
      rintro e x7 ⟨y1, rfl, i1, _, b7⟩
      have c7 := c6.trans (b7.mono c6.size)
      have i0 := (i0.keep b7 (Nat.le_refl _)).more b7.size
      go_wp2_with fail
      refine (i_sameTree _ _ a0 a1 _ i0 i1).mono ?_
      rintro e x8 ⟨rfl, b8⟩
      have c8 := c7.trans (b8.mono c7.size)
      have i0 := (i0.keep b8 (Nat.le_refl _)).more b8.size
      have i1 := (i1.keep b8 (Nat.le_refl _)).more b8.size
      go_wp2_with fail
      refine (l_toNodes _ a0 _ hz0 ((h0.keep c8 (Nat.le_refl _)).more c8.size)).mono ?_
      rintro e x9 ⟨z0, rfl, e0, _, b9⟩
      have c9 := c8.trans (b9.mono c8.size)
      have i0 := (i0.keep b9 (Nat.le_refl _)).more b9.size
      have i1 := (i1.keep b9 (Nat.le_refl _)).more b9.size
      go_wp2_with fail
      refine (l_eqNodes _ _ a0 _ i0 e0).mono ?_
      rintro e x10 ⟨rfl, b10⟩
      have c10 := c9.trans (b10.mono c9.size)
      have i0 := (i0.keep b10 (Nat.le_refl _)).more b10.size
      have i1 := (i1.keep b10 (Nat.le_refl _)).more b10.size
      go_wp2_with fail
      refine (l_toNodes _ a1 _ hz1 ((h1.keep c10 (Nat.le_refl _)).more c10.size)).mono ?_
      rintro e x11 ⟨z1, rfl, e1, _, b11⟩
      have c11 := c10.trans (b11.mono c10.size)
      have i0 := (i0.keep b11 (Nat.le_refl _)).more b11.size
      have i1 := (i1.keep b11 (Nat.le_refl _)).more b11.size
      go_wp2_with fail
      refine (l_eqNodes _ _ a1 _ i1 e1).mono ?_
      rintro e x12 ⟨rfl, b12⟩
      have c12 := c11.trans (b12.mono c11.size)
      have i0 := (i0.keep b12 (Nat.le_refl _)).more b12.size
      have i1 := (i1.keep b12 (Nat.le_refl _)).more b12.size
      go_wp2_with fail
      go_ret
      exact ⟨rfl, c12⟩
    · go_enter Try.func21, Try.ntmps21
      go_wp2_with fail
      refine (l_szNodes _ a0 _ _ (by omega) (by omega) h0).mono ?_
      rintro e x1 ⟨rfl, b1⟩
      have c1 := b1
      rw [hq0]
      go_wp2_with fail
      refine (l_szNodes _ a1 _ _ (by omega) (by omega) ((h1.keep c1 (Nat.le_refl _)).more c1.size)).mono ?_
      rintro e x2 ⟨rfl, b2⟩
      have c2 := c1.trans (b2.mono c1.size)
      rw [subB_lt (by have := hr0.out; omega)]
      go_wp2_with fail
      go_ret
      exact ⟨rfl, c2⟩
  · go_enter Try.func21, Try.ntmps21
    go_wp2_with fail
    refine (l_szNodes _ a0 _ _ (by omega) (by omega) h0).mono ?_
    rintro e x1 ⟨rfl, b1⟩
    have c1 := b1
    rw [subB_lt (by omega)]
    go_wp2_with fail
    go_ret
    exact ⟨rfl, c1⟩
end Go.Proofs.Ytgbpnnokhdkciaa
