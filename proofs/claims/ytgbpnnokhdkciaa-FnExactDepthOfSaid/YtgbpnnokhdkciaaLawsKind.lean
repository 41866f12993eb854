/- The walk of the law on KindCount. -/
import Derived.Test.YtgbpnnokhdkciaaKindCount
namespace Go.Proofs.Ytgbpnnokhdkciaa
open Go.RowKit
set_option linter.unusedVariables false
theorem Below.ge {B : Nat} {w w' : World} (h : Below w.heap.size w w') (hB : B ≤ w.heap.size) : Below B w w' := h.mono hB
set_option maxRecDepth 100000 in
set_option maxHeartbeats 1000000 in
theorem l_KindCount (v0 : Value) (a0 : List PNode) (a1 : Int) (w : World) (h : NodesIn w w.heap.size v0 a0) (w1 : (Lit.int .i64 a1).wf = true) : Calls Try.prog 20 #[v0, .int .i64 a1] w fun e w' => e = .returned (.bool true) ∧ Below w.heap.size w w' := by
  obtain ⟨_, _⟩ := okInt_of w1
  by_cases hs : nodesBulk a0 ≤ 1048576
  · obtain ⟨q, hq⟩ : ∃ q : Int, subB 1048576 (nodesBulk a0) = q := ⟨_, rfl⟩
    have hq0 : 0 ≤ q ∧ q ≤ 1048576 := by rw [← hq, subB_ge (by omega)]; omega
    go_enter Try.func20, Try.ntmps20
    go_wp2_with fail
    refine (l_szNodes _ a0 _ _ (by omega) (by omega) h).mono ?_
    rintro e x1 ⟨rfl, b1⟩
    rw [hq]
    go_wp2_with fail
    refine (l_toNodes _ a0 _ hs ((h.keep b1 (Nat.le_refl _)).more b1.size)).mono ?_
    rintro e x2 ⟨v2, rfl, n2, _, b2⟩
    have c2 := b1.trans (b2.mono b1.size)
    go_wp2_with fail
    refine (s_kindCount _ a1 a0 _ n2).mono ?_
    rintro e x3 ⟨rfl, b3⟩
    have c3 := c2.trans (b3.mono c2.size)
    go_wp2_with fail
    refine (l_toNodes _ a0 _ hs ((h.keep c3 (Nat.le_refl _)).more c3.size)).mono ?_
    rintro e x4 ⟨v4, rfl, n4, _, b4⟩
    have c4 := c3.trans (b4.mono c3.size)
    go_wp2_with fail
    refine (i_kindCount _ a1 a0 _ n4).mono ?_
    rintro e x5 ⟨rfl, b5⟩
    have c5 := c4.trans (b5.mono c4.size)
    have m5 := (n4.keep b5 (Nat.le_refl _)).more b5.size
    go_wp2_with fail
    refine (l_toNodes _ a0 _ hs ((h.keep c5 (Nat.le_refl _)).more c5.size)).mono ?_
    rintro e x6 ⟨v6, rfl, n6, _, b6⟩
    have c6 := c5.trans (b6.mono c5.size)
    have m6 := (m5.keep b6 (Nat.le_refl _)).more b6.size
    go_wp2_with fail
    refine (l_eqNodes _ _ a0 _ m6 n6).mono ?_
    rintro e x7 ⟨rfl, b7⟩
    have c7 := c6.trans (b7.mono c6.size)
    go_wp2_with fail
    go_ret
    exact ⟨rfl, c7⟩
  · go_enter Try.func20, Try.ntmps20
    go_wp2_with fail
    refine (l_szNodes _ a0 _ _ (by omega) (by omega) h).mono ?_
    rintro e x1 ⟨rfl, b1⟩
    rw [subB_lt (by omega)]
    go_wp2_with fail
    go_ret
    exact ⟨rfl, b1⟩
end Go.Proofs.Ytgbpnnokhdkciaa
