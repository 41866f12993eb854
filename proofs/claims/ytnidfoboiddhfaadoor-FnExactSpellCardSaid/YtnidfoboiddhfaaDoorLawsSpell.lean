/- The law on Spell (walk). -/
import Derived.Test.YtnidfoboiddhfaaDoorSpellI
import Derived.Test.YtnidfoboiddhfaaDoorTokKit
namespace Go.Proofs.YtnidfoboiddhfaaDoor
open Go.RowKit
set_option linter.unusedVariables false
set_option maxHeartbeats 1000000 in
theorem l_Spell (v0 : Value) (a0 : List PTok) (w : World) (t1 : TabAt w 0 signL) (z0 : ToksIn w w.heap.size v0 a0) : Calls Tryd.prog 7 #[v0] w fun e w' => e = .returned (.bool true) ∧ Below w.heap.size w w' := by
  have t1H := Lib.hid t1
  have zH := Lib.hid z0
  clear t1 z0
  by_cases hs : 1048576 < toksBulk a0
  · have hq := Lib.hid (show subB 1048576 (toksBulk a0) = -1 by rw [subB, if_pos (by omega)])
    go_enter Tryd.func7, Tryd.ntmps7
    go_wp2_with fail
    refine (l_szTokens _ a0 _ _ (by omega) (by omega) zH.out).mono ?_
    rintro e w1 ⟨rfl, hb1⟩
    rw [hq.out]
    go_wp2_with fail
    go_ret
    exact ⟨rfl, hb1⟩
  · obtain ⟨q, hq0⟩ : ∃ q, subB 1048576 (toksBulk a0) = q := ⟨_, rfl⟩
    have hqn : 0 ≤ q := by rw [← hq0, subB, if_neg (by omega)]; omega
    have hq := Lib.hid hq0
    have hl := Lib.hid (show toksBulk a0 ≤ 1048576 by omega)
    clear hq0 hs
    go_enter Tryd.func7, Tryd.ntmps7
    go_wp2_with fail
    refine (l_szTokens _ a0 _ _ (by omega) (by omega) zH.out).mono ?_
    rintro e w1 ⟨rfl, hb1⟩
    rw [hq.out]
    have b1 := Lib.hid hb1
    have z1 := Lib.hid ((zH.out.keep hb1 (Nat.le_refl _)).more hb1.size)
    clear hb1
    go_wp2_with fail
    refine (l_toTokens _ a0 _ hl.out z1.out).mono ?_
    rintro e w2 ⟨v2, rfl, h2, f2, hb2⟩
    have b2 := Lib.hid (b1.out.trans (hb2.mono b1.out.size))
    have h2H := Lib.hid h2
    clear h2 f2 hb2
    go_wp2_with fail
    refine (s_spell _ a0 _ hl.out h2H.out).mono ?_
    rintro e w3 ⟨rfl, hb3⟩
    have b3 := Lib.hid (b2.out.trans (hb3.mono b2.out.size))
    have z3 := Lib.hid ((zH.out.keep b3.out (Nat.le_refl _)).more b3.out.size)
    clear hb3
    go_wp2_with fail
    refine (l_toTokens _ a0 _ hl.out z3.out).mono ?_
    rintro e w4 ⟨v4, rfl, h4, f4, hb4⟩
    have b4 := Lib.hid (b3.out.trans (hb4.mono b3.out.size))
    have h4H := Lib.hid h4
    have x1 := Lib.hid (t1H.out.later b4.out)
    clear h4 f4 hb4
    go_wp2_with fail
    refine (i_spell _ a0 _ hl.out h4H.out x1.out).mono ?_
    rintro e w5 ⟨rfl, hb5⟩
    have b5 := Lib.hid (b4.out.trans (hb5.mono b4.out.size))
    have z5 := Lib.hid ((zH.out.keep b5.out (Nat.le_refl _)).more b5.out.size)
    have h5 := Lib.hid ((h4H.out.keep hb5 (Nat.le_refl _)).more hb5.size)
    clear hb5
    go_wp2_with fail
    refine (l_toTokens _ a0 _ hl.out z5.out).mono ?_
    rintro e w6 ⟨v6, rfl, h6, f6, hb6⟩
    have b6 := Lib.hid (b5.out.trans (hb6.mono b5.out.size))
    have h5b := Lib.hid ((h5.out.keep hb6 (Nat.le_refl _)).more hb6.size)
    have h6H := Lib.hid h6
    clear h6 f6 hb6
    go_wp2_with fail
    refine (l_eqTokens _ _ a0 _ h5b.out h6H.out).mono ?_
    rintro e w7 ⟨rfl, hb7⟩
    have b7 := Lib.hid (b6.out.trans (hb7.mono b6.out.size))
    clear hb7
    go_wp2_with fail
    go_ret
    exact ⟨rfl, b7.out⟩
end Go.Proofs.YtnidfoboiddhfaaDoor
