/- The law on NeedsGap (walk). -/
import Derived.Test.YtnidfoboiddhfaaDoorGap
import Derived.Test.YtnidfoboiddhfaaDoorTokOne
import Derived.Deep.RegionHeld3
namespace Go.Proofs.YtnidfoboiddhfaaDoor
open Go.RowKit
set_option linter.unusedVariables false
/-- the cells of two boxes of three cells -/
def Six (W : World) (g : Nat) (u0 u1 u2 v0 v1 v2 : Value) : Prop := W.cell? ⟨g, 0, none⟩ = some u0 ∧ W.cell? ⟨g, 1, none⟩ = some u1 ∧ W.cell? ⟨g, 2, none⟩ = some u2 ∧ W.cell? ⟨g + 1, 0, none⟩ = some v0 ∧ W.cell? ⟨g + 1, 1, none⟩ = some v1 ∧ W.cell? ⟨g + 1, 2, none⟩ = some v2
theorem six_made (w : World) (u0 u1 u2 v0 v1 v2 : Value) (t : TypeId) : Six ((w.alloc (.cells #[u0, u1, u2] t)).alloc (.cells #[v0, v1, v2] t)) w.heap.size u0 u1 u2 v0 v1 v2 ∧ w.heap.size + 1 < ((w.alloc (.cells #[u0, u1, u2] t)).alloc (.cells #[v0, v1, v2] t)).heap.size ∧ Below w.heap.size w ((w.alloc (.cells #[u0, u1, u2] t)).alloc (.cells #[v0, v1, v2] t)) := by
  have h1 := Has.made (w.alloc (.cells #[u0, u1, u2] t)) t #[v0, v1, v2]
  rw [show (w.alloc (.cells #[u0, u1, u2] t)).heap.size = w.heap.size + 1 by simp] at h1
  have h0 := (Has.made w t #[u0, u1, u2]).alloc (.cells #[v0, v1, v2] t)
  exact ⟨⟨h0.get rfl, h0.get rfl, h0.get rfl, h1.get rfl, h1.get rfl, h1.get rfl⟩, h1.lt, ((Below.refl w.heap.size w).alloc (Nat.le_refl _) _).alloc (by simp) _⟩
theorem Six.keep {x y : World} {g B : Nat} {u0 u1 u2 v0 v1 v2 : Value} (h : Six x g u0 u1 u2 v0 v1 v2) (hb : Below B x y) (hB : g + 1 < B) : Six y g u0 u1 u2 v0 v1 v2 := by
  have c0 : ∀ i, y.cell? ⟨g, i, none⟩ = x.cell? ⟨g, i, none⟩ := fun i => hb.cell (p := ⟨g, i, none⟩) (show g < B by omega)
  have c1 : ∀ i, y.cell? ⟨g + 1, i, none⟩ = x.cell? ⟨g + 1, i, none⟩ := fun i => hb.cell (p := ⟨g + 1, i, none⟩) hB
  obtain ⟨a0, a1, a2, b0, b1, b2⟩ := h
  exact ⟨(c0 _).trans a0, (c0 _).trans a1, (c0 _).trans a2, (c1 _).trans b0, (c1 _).trans b1, (c1 _).trans b2⟩
set_option maxRecDepth 100000 in
set_option maxHeartbeats 2000000 in
theorem l_NeedsGap (v0 : Value) (a0 : PTok) (v1 : Value) (a1 : PTok) (w : World) (t1 : TabAt w 0 signL) (z0 : TokIs v0 a0) (z1 : TokIs v1 a1) : Calls Tryd.prog 6 #[v0, v1] w fun e w' => e = .returned (.bool true) ∧ Below w.heap.size w w' := by
  obtain ⟨k0, s0, p0⟩ := a0
  obtain ⟨k1, s1, p1⟩ := a1
  obtain ⟨rfl, _, hm0, _⟩ := z0
  obtain ⟨rfl, _, hm1, _⟩ := z1
  have hm0 : s0.size ≤ maxLen := hm0
  have hm1 : s1.size ≤ maxLen := hm1
  obtain ⟨hs, hlt, hb0⟩ := six_made w (.int .i64 k0) (.string s0) (.int .i64 p0) (.int .i64 k1) (.string s1) (.int .i64 p1) 33
  have hsH := Lib.hid hs
  have hltH := Lib.hid hlt
  have hb0H := Lib.hid hb0
  have tH := Lib.hid t1
  clear hs hlt hb0 t1
  by_cases c0 : 1048576 < s0.size
  · have hq := Lib.hid (show subB 1048576 s0.size = -1 by rw [subB, if_pos (by omega)])
    go_enter Tryd.func6, Tryd.ntmps6
    go_wp2_with (go_at_call 20; refine (l_szToken _ _ _ _ _ (by omega) (by omega) hm0).mono ?_; rintro e w1 ⟨rfl, hb1⟩; rw [hq.out])
    go_ret
    exact ⟨rfl, hb0H.out.trans (hb1.mono hb0H.out.size)⟩
  obtain ⟨q, hq0⟩ : ∃ q, subB 1048576 s0.size = q := ⟨_, rfl⟩
  have hqn : 0 ≤ q ∧ q ≤ 1048576 := by rw [← hq0, subB, if_neg (by omega)]; omega
  have hq := Lib.hid hq0
  clear hq0
  by_cases c1 : q < s1.size
  · have hq1 := Lib.hid (show subB q s1.size = -1 by rw [subB, if_pos (by omega)])
    go_enter Tryd.func6, Tryd.ntmps6
    go_wp2_with fail
    refine (l_szToken _ _ _ _ _ (by omega) (by omega) hm0).mono ?_
    rintro e w1 ⟨rfl, hb1⟩
    rw [hq.out]
    obtain ⟨d0, d1, d2, d3, d4, d5⟩ := hsH.out.keep hb1 hltH.out
    have b1 := Lib.hid (hb0H.out.trans (hb1.mono hb0H.out.size))
    clear hb1
    go_wp2_with fail
    refine (l_szToken _ _ _ _ _ hqn.1 hqn.2 hm1).mono ?_
    rintro e w2 ⟨rfl, hb2⟩
    rw [hq1.out]
    have b2 := Lib.hid (b1.out.trans (hb2.mono b1.out.size))
    clear hb2
    go_wp2_with fail
    go_ret
    exact ⟨rfl, b2.out⟩
  obtain ⟨q1, hq10⟩ : ∃ q1, subB q s1.size = q1 := ⟨_, rfl⟩
  have hq1n : 0 ≤ q1 := by rw [← hq10, subB, if_neg (by omega)]; omega
  have hq1 := Lib.hid hq10
  have hn0 : s0.size ≤ 1048576 := by omega
  have hn1 : s1.size ≤ 1048576 := by omega
  obtain ⟨R, hR⟩ : ∃ R, gapB ⟨k0, s0, p0⟩ ⟨k1, s1, p1⟩ = R := ⟨_, rfl⟩
  have hRH := Lib.hid hR
  clear hR
  clear hq10 c0 c1
  go_enter Tryd.func6, Tryd.ntmps6
  go_wp2_with fail
  refine (l_szToken _ _ _ _ _ (by omega) (by omega) hm0).mono ?_
  rintro e w1 ⟨rfl, hb1⟩
  rw [hq.out]
  have s1H := Lib.hid (hsH.out.keep hb1 hltH.out)
  obtain ⟨d0, d1, d2, d3, d4, d5⟩ := s1H.out
  have b1 := Lib.hid (hb0H.out.trans (hb1.mono hb0H.out.size))
  have n1 := Lib.hid (Nat.lt_of_lt_of_le hltH.out hb1.size)
  clear hb1
  go_wp2_with fail
  refine (l_szToken _ _ _ _ _ hqn.1 hqn.2 hm1).mono ?_
  rintro e w2 ⟨rfl, hb2⟩
  rw [hq1.out]
  have s2H := Lib.hid (s1H.out.keep hb2 n1.out)
  have b2 := Lib.hid (b1.out.trans (hb2.mono b1.out.size))
  have n2 := Lib.hid (Nat.lt_of_lt_of_le n1.out hb2.size)
  clear hb2 d0 d1 d2 d3 d4 d5
  obtain ⟨d0, d1, d2, d3, d4, d5⟩ := s2H.out
  have bacc : Below w2.drew.heap.size w2.drew w2.drew := Below.refl _ _
  have hkeep : ∀ W', Below w2.drew.heap.size w2.drew W' → Six W' w.heap.size (.int .i64 k0) (.string s0) (.int .i64 p0) (.int .i64 k1) (.string s1) (.int .i64 p1) := fun W' hb => (show Six w2.drew _ _ _ _ _ _ _ from s2H.out).keep hb n2.out
  have hkH := Lib.hid hkeep
  have bd : Hid (Below w.heap.size w w2.drew) := below_drewN b2.out 1
  clear hkeep
  go_wp2_with fail
  go_region_held3 (fun W => W.cell? ⟨w.heap.size, 0, none⟩ = some (.int .i64 k0) ∧ W.cell? ⟨w.heap.size, 1, none⟩ = some (.string s0) ∧ W.cell? ⟨w.heap.size, 2, none⟩ = some (.int .i64 p0) ∧ W.cell? ⟨w.heap.size + 1, 0, none⟩ = some (.int .i64 k1) ∧ W.cell? ⟨w.heap.size + 1, 1, none⟩ = some (.string s1) ∧ W.cell? ⟨w.heap.size + 1, 2, none⟩ = some (.int .i64 p1)) (exact hkH.out _ bacc) (first | ((go_at_call 22; refine (l_toToken _ _ _ _).mono ?_; rintro e xa ⟨rfl, ba⟩; have bacc := Below.trans bacc (ba.mono bacc.size); clear ba)) | ((go_at_call 21; refine (s_gap _ _ _ _ _ _ _ hn0 hn1).mono ?_; rintro e xb ⟨rfl, bb⟩; rw [hRH.out]; have bacc := Below.trans bacc (bb.mono bacc.size); clear bb)))
  have b3 := Lib.hid (bd.out.trans (bacc.mono bd.out.size))
  have s3H := Lib.hid ((show Six w2.drew _ _ _ _ _ _ _ from s2H.out).keep bacc n2.out)
  have n3 : Hid (w.heap.size + 1 < xb.heap.size) := Nat.lt_of_lt_of_le n2.out bacc.size
  clear bacc hkH bd d0 d1 d2 d3 d4 d5
  obtain ⟨d0, d1, d2, d3, d4, d5⟩ := s3H.out
  have bacc : Below xb.drew.heap.size xb.drew xb.drew := Below.refl _ _
  have hkeep : ∀ W', Below xb.drew.heap.size xb.drew W' → Six W' w.heap.size (.int .i64 k0) (.string s0) (.int .i64 p0) (.int .i64 k1) (.string s1) (.int .i64 p1) := fun W' hb => (show Six xb.drew _ _ _ _ _ _ _ from s3H.out).keep hb n3.out
  have hkH := Lib.hid hkeep
  have bd : Hid (Below w.heap.size w xb.drew) := below_drewN b3.out 1
  have xt : Hid (TabAt xb.drew 0 signL) := (tH.out.later b3.out).drewN 1
  clear hkeep
  go_wp2_with fail
  go_region_held3 (fun W => W.cell? ⟨w.heap.size, 0, none⟩ = some (.int .i64 k0) ∧ W.cell? ⟨w.heap.size, 1, none⟩ = some (.string s0) ∧ W.cell? ⟨w.heap.size, 2, none⟩ = some (.int .i64 p0) ∧ W.cell? ⟨w.heap.size + 1, 0, none⟩ = some (.int .i64 k1) ∧ W.cell? ⟨w.heap.size + 1, 1, none⟩ = some (.string s1) ∧ W.cell? ⟨w.heap.size + 1, 2, none⟩ = some (.int .i64 p1)) (exact hkH.out _ bacc) (first | ((go_at_call 22; refine (l_toToken _ _ _ _).mono ?_; rintro e xa ⟨rfl, ba⟩; have bacc := Below.trans bacc (ba.mono bacc.size); clear ba)) | ((go_at_call 23; refine (i_gap _ _ _ _ _ _ _ hn0 hn1 (xt.out.later bacc)).mono ?_; rintro e xc ⟨rfl, bb⟩; rw [hRH.out]; have bacc := Below.trans bacc (bb.mono bacc.size); clear bb)))
  have b4 := Lib.hid (bd.out.trans (bacc.mono bd.out.size))
  clear bacc
  go_wp2_with fail
  go_ret
  exact ⟨rfl, b4.out⟩
end Go.Proofs.YtnidfoboiddhfaaDoor
