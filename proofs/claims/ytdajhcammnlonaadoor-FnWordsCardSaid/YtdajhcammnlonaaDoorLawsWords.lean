/- The law on words: keywords, builtins and names are disjoint, and each spelling has one kind (walk). -/
import Derived.Test.YtdajhcammnlonaaDoorDrawWords
import Derived.Test.YtdajhcammnlonaaDoorTabsI
import Derived.Test.YtdajhcammnlonaaDoorOpAtI
namespace Go.Proofs.YtdajhcammnlonaaDoor
open Go.RowKit
set_option linter.unusedVariables false
theorem words_kw : ∀ j : Fin 17, keywordOf (spellOf (10 + (j.val : Int))) = 10 + (j.val : Int) ∧ nameOkB (spellOf (10 + (j.val : Int))) = false := by decide +kernel
theorem words_sg : ∀ j : Fin 39, opAt (spellOf (30 + (j.val : Int))) ((0 : Nat) : Int) = (30 + (j.val : Int), (spellOf (30 + (j.val : Int))).size) ∧ 0 < (spellOf (30 + (j.val : Int))).size ∧ (spellOf (30 + (j.val : Int))).size ≤ 2 := by decide +kernel
theorem words_in {k : Int} (h : 10 ≤ k ∧ k ≤ 26) : keywordOf (spellOf k) = k ∧ nameOkB (spellOf k) = false := by
  have := words_kw ⟨(k - 10).toNat, by omega⟩
  rwa [show (10 : Int) + (((⟨(k - 10).toNat, by omega⟩ : Fin 17).val : Nat) : Int) = k by simp; omega] at this
theorem signs_in {k : Int} (h : 30 ≤ k ∧ k ≤ 68) : opAt (spellOf k) ((0 : Nat) : Int) = (k, (spellOf k).size) ∧ 0 < (spellOf k).size ∧ (spellOf k).size ≤ 2 := by
  have := words_sg ⟨(k - 30).toNat, by omega⟩
  rwa [show (30 : Int) + (((⟨(k - 30).toNat, by omega⟩ : Fin 39).val : Nat) : Int) = k by simp; omega] at this
theorem tab_size {l : List (List UInt8)} (hl : ∀ x ∈ l, x.length ≤ 16) (i : Nat) : (bs (l.getD i [])).size ≤ 16 := by
  rw [bs_size, List.getD_eq_getElem?_getD]
  cases hx : l[i]? with
  | none => simp
  | some x => exact hl x (List.mem_of_getElem? hx)
theorem spell_size (k : Int) : (spellOf k).size ≤ 16 := by
  unfold spellOf
  split
  · rw [bs_size]; decide
  · split
    · exact tab_size (by decide) _
    · split
      · exact tab_size (by decide) _
      · rw [bs_size]; decide
set_option maxRecDepth 100000 in
set_option maxHeartbeats 4000000 in
theorem l_FnWords (v0 : Value) (a0 : List UInt8) (w : World) (t0 : TabAt w 0 kwL) (t1 : TabAt w 1 signL) (t2 : TabAt w 2 biL) (h0 : BytesIn w w.heap.size v0 a0) :
    Calls Tryd.prog 3 #[v0] w fun e w' => e = .returned (.bool true) ∧ Below w.heap.size w w' := by
  have t0 := Lib.hid t0
  have t1 := Lib.hid t1
  have t2 := Lib.hid t2
  have hB := Lib.hid h0
  obtain ⟨A, c, rfl, r⟩ := h0
  clear r
  by_cases hbig : 1048576 < a0.length
  · have hd := Lib.hid (show decide (1048576 < a0.length) = true by simpa using hbig)
    clear hbig
    go_enter Tryd.func3, Tryd.ntmps3
    go_wp2_with fail
    refine (l_big _ a0 _ hB.out).mono ?_
    rintro e w' ⟨rfl, rfl⟩
    rw [hd.out]
    go_wp2_with fail
    go_ret
    exact ⟨rfl, Below.refl _ _⟩
  · have hd := Lib.hid (show decide (1048576 < a0.length) = false by simpa using hbig)
    have hl := Lib.hid (show a0.length ≤ 1048576 by omega)
    clear hbig
    go_enter Tryd.func3, Tryd.ntmps3
    go_wp2_with fail
    refine (l_big _ a0 _ hB.out).mono ?_
    rintro e w' ⟨rfl, rfl⟩
    rw [hd.out]
    go_wp2_with fail
    refine (d_drawSpellOf _ a0 _ hl.out hB.out).mono ?_
    rintro e w1 ⟨k, hk, rfl, hb1⟩
    have hb1 := Lib.hid hb1
    have hok : okI64 k := by unfold okI64; omega
    have hok := Lib.hid hok
    obtain ⟨S, hS⟩ : ∃ S, spellOf k = S := ⟨_, rfl⟩
    have hS := Lib.hid hS
    go_wp2_with fail
    refine (i_spellOf k _ hok.out (t0.out.later hb1.out) (t1.out.later hb1.out)).mono ?_
    rintro e w' ⟨rfl, rfl⟩
    rw [hS.out]
    go_wp2_with fail
    refine (s_spellOf k _ hok.out).mono ?_
    rintro e w2 ⟨rfl, hb2⟩
    rw [hS.out]
    have hb2 := Lib.hid (hb1.out.trans (hb2.mono hb1.out.size))
    have hsz : Hid (S.size ≤ 16777216) := by show S.size ≤ _; rw [← hS.out]; have := spell_size k; omega
    by_cases hkw : 10 ≤ k ∧ k ≤ 26
    · obtain ⟨f1, f2⟩ := words_in hkw
      rw [hS.out] at f1 f2
      have f1 := Lib.hid f1
      have f2 := Lib.hid f2
      obtain ⟨g1, g2⟩ := hkw
      clear hk
      go_wp2_with fail
      refine (i_keywordOf S _ (t0.out.later hb2.out)).mono ?_
      rintro e w' ⟨rfl, rfl⟩
      rw [f1.out]
      go_wp2_with fail
      refine (i_nameOk S _ hsz.out (t0.out.later hb2.out) (t2.out.later hb2.out)).mono ?_
      rintro e w' ⟨rfl, rfl⟩
      rw [f2.out]
      go_wp2_with fail
      refine (d_drawNameOk _ a0 _ hl.out ((hB.out.keep hb2.out (Nat.le_refl _)).more hb2.out.size)).mono ?_
      rintro e w3 ⟨t, ht, rfl, hb3⟩
      have hb3 := Lib.hid (hb2.out.trans (hb3.mono hb2.out.size))
      have hts := Lib.hid (show t.size ≤ 16777216 by omega)
      clear ht
      obtain ⟨N, hN⟩ : ∃ N, nameOkB t = N := ⟨_, rfl⟩
      have hNN := Lib.hid hN
      clear hN
      go_wp2_with fail
      refine (i_nameOk t _ hts.out (t0.out.later hb3.out) (t2.out.later hb3.out)).mono ?_
      rintro e w' ⟨rfl, rfl⟩
      rw [hNN.out]
      obtain ⟨P, hP⟩ : ∃ P, nameShape t = P := ⟨_, rfl⟩
      obtain ⟨K, hK⟩ : ∃ K, keywordOf t = K := ⟨_, rfl⟩
      obtain ⟨U, hU⟩ : ∃ U, isBuiltinB t = U := ⟨_, rfl⟩
      have hNP : N = (P && K == 0 && !U) := by rw [← hNN.out, ← hP, ← hK, ← hU]; rfl
      have hP := Lib.hid hP
      have hK := Lib.hid hK
      have hU := Lib.hid hU
      go_wp2_with fail
      refine (i_nameShape t _ hts.out).mono ?_
      rintro e w' ⟨rfl, rfl⟩
      rw [hP.out]
      cases P
      · obtain rfl : N = false := by rw [hNP]; rfl
        clear hNP
        go_wp2_with fail
        refine (s_nameOk t _ hts.out).mono ?_
        rintro e w4 ⟨rfl, hb4⟩
        rw [hNN.out]
        have hb4 := Lib.hid (hb3.out.trans (hb4.mono hb3.out.size))
        go_wp2_with fail
        go_ret
        exact ⟨rfl, hb4.out⟩
      · go_wp2_with fail
        refine (i_keywordOf t _ (t0.out.later hb3.out)).mono ?_
        rintro e w' ⟨rfl, rfl⟩
        rw [hK.out]
        cases hK0 : K == 0
        · obtain rfl : N = false := by rw [hNP, hK0]; rfl
          clear hNP
          go_wp2_with fail
          refine (s_nameOk t _ hts.out).mono ?_
          rintro e w4 ⟨rfl, hb4⟩
          rw [hNN.out]
          have hb4 := Lib.hid (hb3.out.trans (hb4.mono hb3.out.size))
          go_wp2_with fail
          go_ret
          exact ⟨rfl, hb4.out⟩
        · have hK1 : N = !U := by rw [hNP, hK0]; simp
          clear hNP
          go_wp2_with fail
          refine (i_isBuiltin t _ (t2.out.later hb3.out)).mono ?_
          rintro e w' ⟨rfl, rfl⟩
          rw [hU.out]
          cases U
          · obtain rfl : N = true := hK1
            go_wp2_with fail
            refine (s_nameOk t _ hts.out).mono ?_
            rintro e w4 ⟨rfl, hb4⟩
            rw [hNN.out]
            have hb4 := Lib.hid (hb3.out.trans (hb4.mono hb3.out.size))
            go_wp2_with fail
            go_ret
            exact ⟨rfl, hb4.out⟩
          · obtain rfl : N = false := hK1
            go_wp2_with fail
            refine (s_nameOk t _ hts.out).mono ?_
            rintro e w4 ⟨rfl, hb4⟩
            rw [hNN.out]
            have hb4 := Lib.hid (hb3.out.trans (hb4.mono hb3.out.size))
            go_wp2_with fail
            go_ret
            exact ⟨rfl, hb4.out⟩
    · by_cases hsg : 30 ≤ k ∧ k ≤ 68
      · obtain ⟨f1, f2, f3⟩ := signs_in hsg
        rw [hS.out] at f1 f2 f3
        have f1 := Lib.hid f1
        obtain ⟨g1, g2⟩ := hsg
        obtain ⟨z, hz⟩ : ∃ z, S.size = z := ⟨_, rfl⟩
        have hkw1 : decide (k ≤ 26) = false := by simp; omega
        clear hkw hk
        go_wp2_with fail
        refine (i_opAt S 0 _ hsz.out f2 (t1.out.later hb2.out)).mono ?_
        rintro e w' ⟨rfl, rfl⟩
        rw [f1.out]
        clear f2 f3
        go_wp2_with fail
        refine (d_drawNameOk _ a0 _ hl.out ((hB.out.keep hb2.out (Nat.le_refl _)).more hb2.out.size)).mono ?_
        rintro e w3 ⟨t, ht, rfl, hb3⟩
        have hb3 := Lib.hid (hb2.out.trans (hb3.mono hb2.out.size))
        have hts := Lib.hid (show t.size ≤ 16777216 by omega)
        clear ht
        obtain ⟨N, hN⟩ : ∃ N, nameOkB t = N := ⟨_, rfl⟩
        have hNN := Lib.hid hN
        clear hN
        go_wp2_with fail
        refine (i_nameOk t _ hts.out (t0.out.later hb3.out) (t2.out.later hb3.out)).mono ?_
        rintro e w' ⟨rfl, rfl⟩
        rw [hNN.out]
        obtain ⟨P, hP⟩ : ∃ P, nameShape t = P := ⟨_, rfl⟩
        obtain ⟨K, hK⟩ : ∃ K, keywordOf t = K := ⟨_, rfl⟩
        obtain ⟨U, hU⟩ : ∃ U, isBuiltinB t = U := ⟨_, rfl⟩
        have hNP : N = (P && K == 0 && !U) := by rw [← hNN.out, ← hP, ← hK, ← hU]; rfl
        have hP := Lib.hid hP
        have hK := Lib.hid hK
        have hU := Lib.hid hU
        go_wp2_with fail
        refine (i_nameShape t _ hts.out).mono ?_
        rintro e w' ⟨rfl, rfl⟩
        rw [hP.out]
        cases P
        · obtain rfl : N = false := by rw [hNP]; rfl
          clear hNP
          go_wp2_with fail
          refine (s_nameOk t _ hts.out).mono ?_
          rintro e w4 ⟨rfl, hb4⟩
          rw [hNN.out]
          have hb4 := Lib.hid (hb3.out.trans (hb4.mono hb3.out.size))
          go_wp2_with fail
          go_ret
          exact ⟨rfl, hb4.out⟩
        · go_wp2_with fail
          refine (i_keywordOf t _ (t0.out.later hb3.out)).mono ?_
          rintro e w' ⟨rfl, rfl⟩
          rw [hK.out]
          cases hK0 : K == 0
          · obtain rfl : N = false := by rw [hNP, hK0]; rfl
            clear hNP
            go_wp2_with fail
            refine (s_nameOk t _ hts.out).mono ?_
            rintro e w4 ⟨rfl, hb4⟩
            rw [hNN.out]
            have hb4 := Lib.hid (hb3.out.trans (hb4.mono hb3.out.size))
            go_wp2_with fail
            go_ret
            exact ⟨rfl, hb4.out⟩
          · have hK1 : N = !U := by rw [hNP, hK0]; simp
            clear hNP
            go_wp2_with fail
            refine (i_isBuiltin t _ (t2.out.later hb3.out)).mono ?_
            rintro e w' ⟨rfl, rfl⟩
            rw [hU.out]
            cases U
            · obtain rfl : N = true := hK1
              go_wp2_with fail
              refine (s_nameOk t _ hts.out).mono ?_
              rintro e w4 ⟨rfl, hb4⟩
              rw [hNN.out]
              have hb4 := Lib.hid (hb3.out.trans (hb4.mono hb3.out.size))
              go_wp2_with fail
              go_ret
              exact ⟨rfl, hb4.out⟩
            · obtain rfl : N = false := hK1
              go_wp2_with fail
              refine (s_nameOk t _ hts.out).mono ?_
              rintro e w4 ⟨rfl, hb4⟩
              rw [hNN.out]
              have hb4 := Lib.hid (hb3.out.trans (hb4.mono hb3.out.size))
              go_wp2_with fail
              go_ret
              exact ⟨rfl, hb4.out⟩
      · by_cases hlo : k < 10
        · have hlo2 : k < 30 := by omega
          clear hkw hsg
          go_wp2_with fail
          refine (d_drawNameOk _ a0 _ hl.out ((hB.out.keep hb2.out (Nat.le_refl _)).more hb2.out.size)).mono ?_
          rintro e w3 ⟨t, ht, rfl, hb3⟩
          have hb3 := Lib.hid (hb2.out.trans (hb3.mono hb2.out.size))
          have hts := Lib.hid (show t.size ≤ 16777216 by omega)
          clear ht
          obtain ⟨N, hN⟩ : ∃ N, nameOkB t = N := ⟨_, rfl⟩
          have hNN := Lib.hid hN
          clear hN
          go_wp2_with fail
          refine (i_nameOk t _ hts.out (t0.out.later hb3.out) (t2.out.later hb3.out)).mono ?_
          rintro e w' ⟨rfl, rfl⟩
          rw [hNN.out]
          obtain ⟨P, hP⟩ : ∃ P, nameShape t = P := ⟨_, rfl⟩
          obtain ⟨K, hK⟩ : ∃ K, keywordOf t = K := ⟨_, rfl⟩
          obtain ⟨U, hU⟩ : ∃ U, isBuiltinB t = U := ⟨_, rfl⟩
          have hNP : N = (P && K == 0 && !U) := by rw [← hNN.out, ← hP, ← hK, ← hU]; rfl
          have hP := Lib.hid hP
          have hK := Lib.hid hK
          have hU := Lib.hid hU
          go_wp2_with fail
          refine (i_nameShape t _ hts.out).mono ?_
          rintro e w' ⟨rfl, rfl⟩
          rw [hP.out]
          cases P
          · obtain rfl : N = false := by rw [hNP]; rfl
            clear hNP
            go_wp2_with fail
            refine (s_nameOk t _ hts.out).mono ?_
            rintro e w4 ⟨rfl, hb4⟩
            rw [hNN.out]
            have hb4 := Lib.hid (hb3.out.trans (hb4.mono hb3.out.size))
            go_wp2_with fail
            go_ret
            exact ⟨rfl, hb4.out⟩
          · go_wp2_with fail
            refine (i_keywordOf t _ (t0.out.later hb3.out)).mono ?_
            rintro e w' ⟨rfl, rfl⟩
            rw [hK.out]
            cases hK0 : K == 0
            · obtain rfl : N = false := by rw [hNP, hK0]; rfl
              clear hNP
              go_wp2_with fail
              refine (s_nameOk t _ hts.out).mono ?_
              rintro e w4 ⟨rfl, hb4⟩
              rw [hNN.out]
              have hb4 := Lib.hid (hb3.out.trans (hb4.mono hb3.out.size))
              go_wp2_with fail
              go_ret
              exact ⟨rfl, hb4.out⟩
            · have hK1 : N = !U := by rw [hNP, hK0]; simp
              clear hNP
              go_wp2_with fail
              refine (i_isBuiltin t _ (t2.out.later hb3.out)).mono ?_
              rintro e w' ⟨rfl, rfl⟩
              rw [hU.out]
              cases U
              · obtain rfl : N = true := hK1
                go_wp2_with fail
                refine (s_nameOk t _ hts.out).mono ?_
                rintro e w4 ⟨rfl, hb4⟩
                rw [hNN.out]
                have hb4 := Lib.hid (hb3.out.trans (hb4.mono hb3.out.size))
                go_wp2_with fail
                go_ret
                exact ⟨rfl, hb4.out⟩
              · obtain rfl : N = false := hK1
                go_wp2_with fail
                refine (s_nameOk t _ hts.out).mono ?_
                rintro e w4 ⟨rfl, hb4⟩
                rw [hNN.out]
                have hb4 := Lib.hid (hb3.out.trans (hb4.mono hb3.out.size))
                go_wp2_with fail
                go_ret
                exact ⟨rfl, hb4.out⟩
        · have hkw1 : decide (k ≤ 26) = false := by simp; omega
          by_cases hmi : k < 30
          · clear hkw hsg
            go_wp2_with fail
            refine (d_drawNameOk _ a0 _ hl.out ((hB.out.keep hb2.out (Nat.le_refl _)).more hb2.out.size)).mono ?_
            rintro e w3 ⟨t, ht, rfl, hb3⟩
            have hb3 := Lib.hid (hb2.out.trans (hb3.mono hb2.out.size))
            have hts := Lib.hid (show t.size ≤ 16777216 by omega)
            clear ht
            obtain ⟨N, hN⟩ : ∃ N, nameOkB t = N := ⟨_, rfl⟩
            have hNN := Lib.hid hN
            clear hN
            go_wp2_with fail
            refine (i_nameOk t _ hts.out (t0.out.later hb3.out) (t2.out.later hb3.out)).mono ?_
            rintro e w' ⟨rfl, rfl⟩
            rw [hNN.out]
            obtain ⟨P, hP⟩ : ∃ P, nameShape t = P := ⟨_, rfl⟩
            obtain ⟨K, hK⟩ : ∃ K, keywordOf t = K := ⟨_, rfl⟩
            obtain ⟨U, hU⟩ : ∃ U, isBuiltinB t = U := ⟨_, rfl⟩
            have hNP : N = (P && K == 0 && !U) := by rw [← hNN.out, ← hP, ← hK, ← hU]; rfl
            have hP := Lib.hid hP
            have hK := Lib.hid hK
            have hU := Lib.hid hU
            go_wp2_with fail
            refine (i_nameShape t _ hts.out).mono ?_
            rintro e w' ⟨rfl, rfl⟩
            rw [hP.out]
            cases P
            · obtain rfl : N = false := by rw [hNP]; rfl
              clear hNP
              go_wp2_with fail
              refine (s_nameOk t _ hts.out).mono ?_
              rintro e w4 ⟨rfl, hb4⟩
              rw [hNN.out]
              have hb4 := Lib.hid (hb3.out.trans (hb4.mono hb3.out.size))
              go_wp2_with fail
              go_ret
              exact ⟨rfl, hb4.out⟩
            · go_wp2_with fail
              refine (i_keywordOf t _ (t0.out.later hb3.out)).mono ?_
              rintro e w' ⟨rfl, rfl⟩
              rw [hK.out]
              cases hK0 : K == 0
              · obtain rfl : N = false := by rw [hNP, hK0]; rfl
                clear hNP
                go_wp2_with fail
                refine (s_nameOk t _ hts.out).mono ?_
                rintro e w4 ⟨rfl, hb4⟩
                rw [hNN.out]
                have hb4 := Lib.hid (hb3.out.trans (hb4.mono hb3.out.size))
                go_wp2_with fail
                go_ret
                exact ⟨rfl, hb4.out⟩
              · have hK1 : N = !U := by rw [hNP, hK0]; simp
                clear hNP
                go_wp2_with fail
                refine (i_isBuiltin t _ (t2.out.later hb3.out)).mono ?_
                rintro e w' ⟨rfl, rfl⟩
                rw [hU.out]
                cases U
                · obtain rfl : N = true := hK1
                  go_wp2_with fail
                  refine (s_nameOk t _ hts.out).mono ?_
                  rintro e w4 ⟨rfl, hb4⟩
                  rw [hNN.out]
                  have hb4 := Lib.hid (hb3.out.trans (hb4.mono hb3.out.size))
                  go_wp2_with fail
                  go_ret
                  exact ⟨rfl, hb4.out⟩
                · obtain rfl : N = false := hK1
                  go_wp2_with fail
                  refine (s_nameOk t _ hts.out).mono ?_
                  rintro e w4 ⟨rfl, hb4⟩
                  rw [hNN.out]
                  have hb4 := Lib.hid (hb3.out.trans (hb4.mono hb3.out.size))
                  go_wp2_with fail
                  go_ret
                  exact ⟨rfl, hb4.out⟩
          · have hkw2 : decide (k ≤ 68) = false := by simp; omega
            clear hkw hsg
            go_wp2_with fail
            refine (d_drawNameOk _ a0 _ hl.out ((hB.out.keep hb2.out (Nat.le_refl _)).more hb2.out.size)).mono ?_
            rintro e w3 ⟨t, ht, rfl, hb3⟩
            have hb3 := Lib.hid (hb2.out.trans (hb3.mono hb2.out.size))
            have hts := Lib.hid (show t.size ≤ 16777216 by omega)
            clear ht
            obtain ⟨N, hN⟩ : ∃ N, nameOkB t = N := ⟨_, rfl⟩
            have hNN := Lib.hid hN
            clear hN
            go_wp2_with fail
            refine (i_nameOk t _ hts.out (t0.out.later hb3.out) (t2.out.later hb3.out)).mono ?_
            rintro e w' ⟨rfl, rfl⟩
            rw [hNN.out]
            obtain ⟨P, hP⟩ : ∃ P, nameShape t = P := ⟨_, rfl⟩
            obtain ⟨K, hK⟩ : ∃ K, keywordOf t = K := ⟨_, rfl⟩
            obtain ⟨U, hU⟩ : ∃ U, isBuiltinB t = U := ⟨_, rfl⟩
            have hNP : N = (P && K == 0 && !U) := by rw [← hNN.out, ← hP, ← hK, ← hU]; rfl
            have hP := Lib.hid hP
            have hK := Lib.hid hK
            have hU := Lib.hid hU
            go_wp2_with fail
            refine (i_nameShape t _ hts.out).mono ?_
            rintro e w' ⟨rfl, rfl⟩
            rw [hP.out]
            cases P
            · obtain rfl : N = false := by rw [hNP]; rfl
              clear hNP
              go_wp2_with fail
              refine (s_nameOk t _ hts.out).mono ?_
              rintro e w4 ⟨rfl, hb4⟩
              rw [hNN.out]
              have hb4 := Lib.hid (hb3.out.trans (hb4.mono hb3.out.size))
              go_wp2_with fail
              go_ret
              exact ⟨rfl, hb4.out⟩
            · go_wp2_with fail
              refine (i_keywordOf t _ (t0.out.later hb3.out)).mono ?_
              rintro e w' ⟨rfl, rfl⟩
              rw [hK.out]
              cases hK0 : K == 0
              · obtain rfl : N = false := by rw [hNP, hK0]; rfl
                clear hNP
                go_wp2_with fail
                refine (s_nameOk t _ hts.out).mono ?_
                rintro e w4 ⟨rfl, hb4⟩
                rw [hNN.out]
                have hb4 := Lib.hid (hb3.out.trans (hb4.mono hb3.out.size))
                go_wp2_with fail
                go_ret
                exact ⟨rfl, hb4.out⟩
              · have hK1 : N = !U := by rw [hNP, hK0]; simp
                clear hNP
                go_wp2_with fail
                refine (i_isBuiltin t _ (t2.out.later hb3.out)).mono ?_
                rintro e w' ⟨rfl, rfl⟩
                rw [hU.out]
                cases U
                · obtain rfl : N = true := hK1
                  go_wp2_with fail
                  refine (s_nameOk t _ hts.out).mono ?_
                  rintro e w4 ⟨rfl, hb4⟩
                  rw [hNN.out]
                  have hb4 := Lib.hid (hb3.out.trans (hb4.mono hb3.out.size))
                  go_wp2_with fail
                  go_ret
                  exact ⟨rfl, hb4.out⟩
                · obtain rfl : N = false := hK1
                  go_wp2_with fail
                  refine (s_nameOk t _ hts.out).mono ?_
                  rintro e w4 ⟨rfl, hb4⟩
                  rw [hNN.out]
                  have hb4 := Lib.hid (hb3.out.trans (hb4.mono hb3.out.size))
                  go_wp2_with fail
                  go_ret
                  exact ⟨rfl, hb4.out⟩
end Go.Proofs.YtdajhcammnlonaaDoor
