/- The law on Lex (walk). -/
import Derived.Test.YtnidfoboiddhfaaDoorMarkT
namespace Go.Proofs.YtnidfoboiddhfaaDoor
open Go.RowKit
set_option linter.unusedVariables false
theorem OwnT.in_ {w : World} {base : Nat} {v : Value} {l : List PTok} (h : OwnT w base v l) (hl : ∀ t ∈ l, okTok t) : ToksIn w w.heap.size v l := (h.toks hl).1
theorem lexR_len {s : ByteArray} {a : Nat} {b : Int} : (lexR (lexGo s a b)).1.length ≤ s.size - a := by
  induction hm : s.size - a using Nat.strongRecOn generalizing a b with
  | _ n ih =>
    by_cases ha : a < s.size
    · rw [lexGo, dif_pos ha]
      split
      · have := ih (s.size - (a + 1)) (by omega) (a := a + 1) (b := b) rfl
        omega
      · split
        · have := ih (s.size - (a + 2)) (by omega) (a := a + 2) (b := b) rfl
          omega
        · split
          · exact Nat.zero_le _
          · rename_i h1 h2 h3
            have h4 := ih (s.size - (a + (tokAt s a b).text.size)) (by omega) (a := a + (tokAt s a b).text.size) (b := (tokAt s a b).kind) rfl
            cases hx : lexGo s (a + (tokAt s a b).text.size) (tokAt s a b).kind with
            | error e => exact Nat.zero_le _
            | ok r =>
              rw [hx] at h4
              show (_ :: r).length ≤ _
              have h5 : r.length ≤ s.size - (a + (tokAt s a b).text.size) := h4
              have h6 : 0 < (tokAt s a b).text.size := by omega
              rw [List.length_cons]
              omega
    · rw [lexGo, dif_neg ha]
      exact Nat.zero_le _
theorem lexAll_len (s : ByteArray) : (lexAll s).1.length ≤ 3000 := by
  by_cases h : 3000 < s.size
  · rw [lexAll_big h]; exact Nat.zero_le _
  · rw [lexAll_small h]
    have := lexR_len (s := s) (a := 0) (b := 0)
    omega
set_option maxRecDepth 100000 in
set_option maxHeartbeats 1000000 in
theorem l_Lex (s : ByteArray) (w : World) (t0 : TabAt w 3 kwL) (t1 : TabAt w 0 signL) (t2 : TabAt w 1 biL) (hw0 : s.size ≤ maxLen) : Calls Tryd.prog 9 #[.string s] w fun e w' => e = .returned (.bool true) ∧ Below w.heap.size w w' := by
  unfold maxLen at hw0
  have t0H := Lib.hid t0
  have t1H := Lib.hid t1
  have t2H := Lib.hid t2
  clear t0 t1 t2
  by_cases hs : 1048576 < s.size
  · go_enter Tryd.func9, Tryd.ntmps9
    go_wp2_with fail
    go_ret
    exact ⟨rfl, Below.refl _ _⟩
  · have hs0 : s.size ≤ 1048576 := by omega
    have hlen := lexAll_len s
    obtain ⟨R, hR⟩ : ∃ R, lexAll s = R := ⟨_, rfl⟩
    rw [hR] at hlen
    obtain ⟨L, F1, F2⟩ := R
    have hRH := Lib.hid hR
    have hlenH : Hid (L.length ≤ 3000) := hlen
    clear hR hlen hs
    go_enter Tryd.func9, Tryd.ntmps9
    go_wp2_with fail
    refine (s_lex s _ hs0).mono ?_
    rintro e w1 ⟨v1, rfl, ho1, hk1, hb1⟩
    rw [hRH.out] at ho1 hk1 ⊢
    have okL : Hid (∀ t ∈ L, okTok t) := hk1
    have b1 := Lib.hid (hb1.alloc hb1.size (.cells #[.int .i64 F1, .int .i64 F2] 49))
    have f4 := Lib.hid (Has.made w1 49 #[.int .i64 F1, .int .i64 F2])
    have z1 := Lib.hid (((show OwnT w1 w.heap.size v1 L from ho1).in_ okL.out).keep ((Below.refl w1.heap.size w1).alloc (Nat.le_refl _) (.cells #[.int .i64 F1, .int .i64 F2] 49)) (Nat.le_refl _))
    have hB : w1.heap.size < (w1.alloc (.cells #[.int .i64 F1, .int .i64 F2] 49)).heap.size := by simp
    obtain ⟨W1, hW1⟩ : ∃ W1, w1.alloc (.cells #[.int .i64 F1, .int .i64 F2] 49) = W1 := ⟨_, rfl⟩
    rw [hW1] at b1 f4 z1 hB
    have hW1H := Lib.hid hW1
    have hBH := Lib.hid hB
    have x0 := Lib.hid (t0H.out.later b1.out)
    have x1 := Lib.hid (t1H.out.later b1.out)
    have x2 := Lib.hid (t2H.out.later b1.out)
    clear ho1 hk1 hb1 hW1 hB
    go_wp2_with fail
    rw [hW1H.out]
    refine (i_lex s _ hs0 x0.out x1.out x2.out).mono ?_
    rintro e w2 ⟨v2, rfl, ho2, _, hb2⟩
    rw [hRH.out] at ho2 ⊢
    have f6 := Lib.hid (Has.made w2 49 #[.int .i64 F1, .int .i64 F2])
    have o2 := Lib.hid ((show OwnT w2 W1.heap.size v2 L from ho2).alloc (.cells #[.int .i64 F1, .int .i64 F2] 49))
    have c2 := Lib.hid (hb2.alloc hb2.size (.cells #[.int .i64 F1, .int .i64 F2] 49))
    clear ho2 hb2
    obtain ⟨W2, hW2⟩ : ∃ W2, w2.alloc (.cells #[.int .i64 F1, .int .i64 F2] 49) = W2 := ⟨_, rfl⟩
    rw [hW2] at f6 o2 c2
    have hW2H := Lib.hid hW2
    clear hW2
    have q1 := Lib.hid (((z1.out.keep c2.out (Nat.le_of_lt hBH.out)).more (Nat.le_trans (Nat.le_of_lt hBH.out) c2.out.size)))
    go_wp2_with fail
    rw [hW2H.out]
    refine (l_eqTokens v2 v1 L _ (o2.out.in_ okL.out) q1.out).mono ?_
    rintro e w3 ⟨rfl, hb3⟩
    have c3 := Lib.hid (c2.out.trans (hb3.mono c2.out.size))
    have o3 := Lib.hid (o2.out.below hb3 (Nat.le_refl _))
    have g6 := f6.out.below hb3 f6.out.lt
    have g4 := f4.out.below c3.out f4.out.lt
    have n0 := g4.get (i := 0) rfl
    have n1 := g4.get (i := 1) rfl
    have m0 := g6.get (i := 0) rfl
    have m1 := g6.get (i := 1) rfl
    clear g4 g6 hb3
    go_wp2_with fail
    refine (l_eqFault _ _ _).mono ?_
    rintro e w4 ⟨rfl, hb4⟩
    have c4 := Lib.hid (c3.out.trans (hb4.mono c3.out.size))
    have o4 := Lib.hid (o3.out.below hb4 (Nat.le_refl _))
    clear hb4 n0 n1 m0 m1
    obtain ⟨n, hn⟩ : ∃ n, L.length = n := ⟨_, rfl⟩
    have hnl : n ≤ 3000 := by have := hlenH.out; omega
    have hnH := Lib.hid hn
    clear hn
    go_wp2_with fail
    refine (l_markTokens v2 L W1.heap.size n 1 _ c4.out.size hnH.out (by omega) (by omega) o4.out).mono ?_
    rintro e w5 ⟨rfl, ho5, hb5⟩
    have okM := Lib.hid (marksL_ok (n := n) (k := 1) (by omega) (by omega))
    have c5 := Lib.hid (c4.out.trans hb5)
    have o5 := Lib.hid ho5
    clear ho5 hb5
    go_wp2_with fail
    refine (l_heldTokens v2 n 1 _ (by omega) (by omega) (o5.out.in_ okM.out)).mono ?_
    rintro e w6 ⟨rfl, hb6⟩
    have c6 := Lib.hid (c5.out.trans (hb6.mono c5.out.size))
    have o6 := Lib.hid (o5.out.below hb6 (Nat.le_refl _))
    have y0 := Lib.hid (x0.out.later c6.out)
    have y1 := Lib.hid (x1.out.later c6.out)
    have y2 := Lib.hid (x2.out.later c6.out)
    clear hb6
    obtain ⟨Q, hQ⟩ : ∃ Q : Int, 1 + 3 * (n : Int) = Q := ⟨_, rfl⟩
    rw [hQ]
    have hQ0 : ¬ Q < 0 := by omega
    have hQd : decide (Q < 0) = false := by simpa using hQ0
    have hQH := Lib.hid hQ
    clear hQ
    go_wp2_with fail
    refine (i_lex s _ hs0 y0.out y1.out y2.out).mono ?_
    rintro e w7 ⟨v3, rfl, ho7, _, hb7⟩
    rw [hRH.out] at ho7 ⊢
    have f10 := Lib.hid (Has.made w7 49 #[.int .i64 F1, .int .i64 F2])
    have o7 := Lib.hid ((show OwnT w7 w6.heap.size v3 L from ho7).alloc (.cells #[.int .i64 F1, .int .i64 F2] 49))
    have c7 := Lib.hid ((c6.out.trans (hb7.mono c6.out.size)).alloc (Nat.le_trans c6.out.size hb7.size) (.cells #[.int .i64 F1, .int .i64 F2] 49))
    have p7 := Lib.hid ((o6.out.below hb7 (Nat.le_refl _)).alloc (.cells #[.int .i64 F1, .int .i64 F2] 49))
    clear ho7 hb7
    obtain ⟨W7, hW7⟩ : ∃ W7, w7.alloc (.cells #[.int .i64 F1, .int .i64 F2] 49) = W7 := ⟨_, rfl⟩
    rw [hW7] at f10 o7 c7 p7
    have hW7H := Lib.hid hW7
    clear hW7
    have q7 := Lib.hid (((z1.out.keep c7.out (Nat.le_of_lt hBH.out)).more (Nat.le_trans (Nat.le_of_lt hBH.out) c7.out.size)))
    go_wp2_with fail
    rw [hW7H.out]
    refine (l_eqTokens v3 v1 L _ (o7.out.in_ okL.out) q7.out).mono ?_
    rintro e w8 ⟨rfl, hb8⟩
    have c8 := Lib.hid (c7.out.trans (hb8.mono c7.out.size))
    have p8 := Lib.hid (p7.out.below hb8 (Nat.le_refl _))
    have g6 := f10.out.below hb8 f10.out.lt
    have g4 := f4.out.below c8.out f4.out.lt
    have n0 := g4.get (i := 0) rfl
    have n1 := g4.get (i := 1) rfl
    have m0 := g6.get (i := 0) rfl
    have m1 := g6.get (i := 1) rfl
    clear g4 g6 hb8
    go_wp2_with fail
    refine (l_eqFault _ _ _).mono ?_
    rintro e w9 ⟨rfl, hb9⟩
    have c9 := Lib.hid (c8.out.trans (hb9.mono c8.out.size))
    have p9 := Lib.hid (p8.out.below hb9 (Nat.le_refl _))
    clear hb9 n0 n1 m0 m1
    go_wp2_with fail
    refine (l_heldTokens v2 n 1 _ (by omega) (by have := hQH.out; omega) (p9.out.in_ okM.out)).mono ?_
    rintro e w10 ⟨rfl, hb10⟩
    rw [hQH.out]
    have c10 := Lib.hid (c9.out.trans (hb10.mono c9.out.size))
    clear hb10
    go_wp2_with fail
    go_ret
    exact ⟨rfl, b1.out.trans (c10.out.mono b1.out.size)⟩
end Go.Proofs.YtnidfoboiddhfaaDoor
