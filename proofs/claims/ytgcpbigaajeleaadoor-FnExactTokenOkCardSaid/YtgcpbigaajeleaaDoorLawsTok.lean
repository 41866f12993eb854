/- The law on TokenOk (walk). -/
import Derived.Test.YtgcpbigaajeleaaDoorTokOkI
import Derived.Test.YtgcpbigaajeleaaDoorTokOne
namespace Go.Proofs.YtgcpbigaajeleaaDoor
open Go.RowKit
set_option linter.unusedVariables false
theorem l_TokenOk (v0 : Value) (a0 : PTok) (w : World) (t0 : TabAt w 1 kwL) (t1 : TabAt w 2 signL) (t2 : TabAt w 0 biL) (z0 : TokIs v0 a0) : Calls Tryd.prog 10 #[v0] w fun e w' => e = .returned (.bool true) ∧ Below w.heap.size w w' := by
  obtain ⟨k, t, p⟩ := a0
  obtain ⟨rfl, hk, ht, hp⟩ := z0
  obtain ⟨c0, c1, c2, hb, hlt⟩ := tok_box w (.int .i64 k) (.string t) (.int .i64 p) 34
  have hbH := Lib.hid hb
  have hltH := Lib.hid hlt
  have c0H := Lib.hid c0
  have c1H := Lib.hid c1
  have c2H := Lib.hid c2
  have x0 := Lib.hid (t0.later hb)
  have x1 := Lib.hid (t1.later hb)
  have x2 := Lib.hid (t2.later hb)
  clear t0 t1 t2 c0 c1 c2 hb hlt
  by_cases hs : 1048576 < t.size
  · have hq := Lib.hid (show subB 1048576 t.size = -1 by rw [subB, if_pos (by omega)])
    go_enter Tryd.func10, Tryd.ntmps10
    go_wp2_with (go_at_call 32; refine (l_szToken _ _ _ _ _ (by omega) (by omega) ht).mono ?_; rintro e w1 ⟨rfl, hb1⟩; rw [hq.out])
    go_ret
    exact ⟨rfl, hbH.out.trans (hb1.mono hbH.out.size)⟩
  · obtain ⟨q, hq0⟩ : ∃ q, subB 1048576 t.size = q := ⟨_, rfl⟩
    have hqn : 0 ≤ q := by rw [← hq0, subB, if_neg (by omega)]; omega
    have hq := Lib.hid hq0
    have ht2 : t.size ≤ 16777216 := by omega
    clear hq0
    go_enter Tryd.func10, Tryd.ntmps10
    go_wp2_with fail
    refine (l_szToken _ _ _ _ _ (by omega) (by omega) ht).mono ?_
    rintro e w1 ⟨rfl, hb1⟩
    rw [hq.out]
    have d0 : w1.cell? ⟨w.heap.size, 0, none⟩ = some (.int .i64 k) := (hb1.cell (p := ⟨w.heap.size, 0, none⟩) hltH.out).trans c0H.out
    have d1 : w1.cell? ⟨w.heap.size, 1, none⟩ = some (.string t) := (hb1.cell (p := ⟨w.heap.size, 1, none⟩) hltH.out).trans c1H.out
    have d2 : w1.cell? ⟨w.heap.size, 2, none⟩ = some (.int .i64 p) := (hb1.cell (p := ⟨w.heap.size, 2, none⟩) hltH.out).trans c2H.out
    have b1 := Lib.hid (hbH.out.trans (hb1.mono hbH.out.size))
    have n1 := Lib.hid (Nat.lt_of_lt_of_le hltH.out hb1.size)
    have y0 := Lib.hid (x0.out.later hb1)
    have y1 := Lib.hid (x1.out.later hb1)
    have y2 := Lib.hid (x2.out.later hb1)
    clear hb1
    go_wp2_with fail
    refine (l_toToken _ _ _ _).mono ?_
    rintro e w2 ⟨rfl, hb2⟩
    go_wp2_with fail
    refine (s_tokenOk _ _ _ _ hk ht2).mono ?_
    rintro e w3 ⟨rfl, hb3⟩
    have hb23 := hb2.trans (hb3.mono hb2.size)
    have e0 : w3.cell? ⟨w.heap.size, 0, none⟩ = some (.int .i64 k) := (hb23.cell (p := ⟨w.heap.size, 0, none⟩) n1.out).trans d0
    have e1 : w3.cell? ⟨w.heap.size, 1, none⟩ = some (.string t) := (hb23.cell (p := ⟨w.heap.size, 1, none⟩) n1.out).trans d1
    have e2 : w3.cell? ⟨w.heap.size, 2, none⟩ = some (.int .i64 p) := (hb23.cell (p := ⟨w.heap.size, 2, none⟩) n1.out).trans d2
    have b3 := Lib.hid (b1.out.trans (hb23.mono b1.out.size))
    have u0 := Lib.hid (y0.out.later hb23)
    have u1 := Lib.hid (y1.out.later hb23)
    have u2 := Lib.hid (y2.out.later hb23)
    clear hb2 hb3 hb23 d0 d1 d2
    go_wp2_with fail
    refine (l_toToken _ _ _ _).mono ?_
    rintro e w4 ⟨rfl, hb4⟩
    have s0 := Lib.hid (u0.out.later hb4)
    have s1 := Lib.hid (u1.out.later hb4)
    have s2 := Lib.hid (u2.out.later hb4)
    have b4 := Lib.hid (b3.out.trans (hb4.mono b3.out.size))
    clear hb4
    go_wp2_with fail
    refine (i_tokenOk _ _ _ _ hk ht2 s0.out s1.out s2.out).mono ?_
    rintro e w5 ⟨rfl, hb5⟩
    have b5 := Lib.hid (b4.out.trans (hb5.mono b4.out.size))
    clear hb5
    go_wp2_with fail
    go_ret
    exact ⟨rfl, b5.out⟩
end Go.Proofs.YtgcpbigaajeleaaDoor
