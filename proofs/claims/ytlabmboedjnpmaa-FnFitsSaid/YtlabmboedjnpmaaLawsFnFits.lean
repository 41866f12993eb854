/- The walk of the law that what fits a position fits one with a lower level and fewer restrictions. -/
import Derived.Test.YtlabmboedjnpmaaDrawFits
import Derived.Test.YtlabmboedjnpmaaFits
import Derived.Test.YtlabmboedjnpmaaFitsS
import Derived.Test.YtlabmboedjnpmaaWords
import Derived.Deep.RegionHeld3
namespace Go.Proofs.Ytlabmboedjnpmaa
open Go.RowKit
set_option linter.unusedVariables false
theorem opLevel_le (o : Int) : opLevel o ≤ 15 ∧ 0 ≤ opLevel o := by
  unfold opLevel
  repeat' split
  all_goals omega
theorem levelOf_le (k o : Int) : levelOf k o ≤ 15 ∧ 0 ≤ levelOf k o := by
  have h := opLevel_le o
  unfold levelOf
  repeat' split
  all_goals omega
theorem levelWord_some : ∀ n : Nat, n < 15 → 1 ≤ (levelWord ((n : Int) + 1)).size := by decide
theorem text_ne {V : ByteArray} (h : 1 ≤ V.size) : ¬ V.toList = [] := by
  intro e
  rw [ByteArray.toList_eq] at e
  have h1 : V.data.toList.length = V.size := Array.length_toList
  rw [e] at h1
  simp at h1
  omega
theorem fitsB_law {k o l : Int} {d i g n : Bool} (h : fitsB k o l d i g n = true) : fitsB k o l d false false false = true ∧ fitsB k o 1 false false false false = true ∧ posOk l d = true ∧ 1 ≤ (levelWord (levelOf k o)).size := by
  have hL := levelOf_le k o
  unfold fitsB at h ⊢
  by_cases h1 : (!posOk l d || levelOf k o == 0) = true
  · rw [if_pos h1] at h; cases h
  · rw [if_neg h1] at h ⊢
    simp only [Bool.or_eq_true, Bool.not_eq_true', beq_iff_eq, not_or, Bool.not_eq_false] at h1
    have hp : (!posOk 1 false || levelOf k o == 0) = false := by
      have : posOk 1 false = true := by decide
      rw [this]
      simpa using h1.2
    have hw : 1 ≤ (levelWord (levelOf k o)).size := by
      obtain ⟨m, hm⟩ := Int.eq_ofNat_of_zero_le (show 0 ≤ levelOf k o - 1 by have := h1.2; omega)
      have e : levelOf k o = (m : Int) + 1 := by omega
      rw [e]
      exact levelWord_some m (by omega)
    refine ⟨?_, ?_, h1.1, hw⟩
    · rw [if_neg (by simp), if_neg (by simp), if_neg (by simp)]
      by_cases hd : (d && k == 9) = true
      · rw [if_pos hd]
      · rw [if_neg hd]
        rw [if_neg hd] at h
        split at h
        · cases h
        · split at h
          · cases h
          · split at h
            · cases h
            · exact h
    · rw [hp, if_neg (by decide), if_neg (by simp), if_neg (by simp), if_neg (by simp), if_neg (by simp)]
      have := h1.2
      simp only [ge_iff_le, decide_eq_true_eq]
      omega
theorem l_big2 (v : Value) (l : List UInt8) (w : World) (h : BytesIn w w.heap.size v l) : Calls Try.prog 5 #[v] w fun e w' => e = .returned (.bool (decide (1048576 < l.length))) ∧ w = w' := by
  obtain ⟨A, c, rfl, hlc, hcm, _⟩ := h
  unfold maxLen at hcm
  go_enter Try.func5, Try.ntmps5
  go_wp2_with fail
  go_ret
  exact ⟨ret_bool (by first | rfl | (rw [decide_eq_decide]; omega)), rfl⟩
theorem i_fits_true (k o : Int) (t u : ByteArray) (A : Option Addr) (m c : Nat) (l : Int) (d i g n : Bool) (w : World) (h : fitsB k o l d i g n = true) : Calls Try.prog 7 #[.agg #[.int .i64 k, .int .i64 o, .string t, .string u, .slice A m c], .agg #[.int .i64 l, .bool d, .bool i, .bool g, .bool n]] w (RetBool w true) := by
  have := i_fits k o t u A m c l d i g n w
  rw [h] at this
  exact this
set_option maxRecDepth 100000 in
set_option maxHeartbeats 4000000 in
theorem l_FnFits (v0 : Value) (a0 : List UInt8) (w : World) (h0 : BytesIn w w.heap.size v0 a0) : Calls Try.prog 3 #[v0] w fun e w' => e = .returned (.bool true) ∧ Below w.heap.size w w' := by
  have hB := Lib.hid h0
  obtain ⟨A, c, rfl, r⟩ := h0
  clear r
  by_cases hbig : 1048576 < a0.length
  · have hd := Lib.hid (show decide (1048576 < a0.length) = true by simpa using hbig)
    clear hbig
    go_enter Try.func3, Try.ntmps3
    go_wp2_with fail
    refine (l_big2 _ a0 _ hB.out).mono ?_
    rintro e w' ⟨rfl, rfl⟩
    rw [hd.out]
    go_wp2_with fail
    go_ret
    exact ⟨rfl, Below.refl _ _⟩
  · have hd := Lib.hid (show decide (1048576 < a0.length) = false by simpa using hbig)
    have hl := Lib.hid (show a0.length ≤ 1048576 by omega)
    clear hbig
    go_enter Try.func3, Try.ntmps3
    go_wp2_with fail
    refine (l_big2 _ a0 _ hB.out).mono ?_
    rintro e w' ⟨rfl, rfl⟩
    rw [hd.out]
    go_wp2_with fail
    refine (d_drawFits _ a0 _ hl.out hB.out).mono ?_
    rintro e w1 ⟨⟨k, o, t, u, ks⟩, K, kc, ⟨l, d, i, g, n⟩, rfl, _, _, hp, hb1⟩
    dsimp only
    obtain ⟨m, hm⟩ : ∃ m, ks.length = m := ⟨_, rfl⟩
    rw [hm]
    clear hm
    obtain ⟨f2, p2, b2, hs2⟩ := two_made w1 (.int .i64 k) (.int .i64 o) (.string t) (.string u) (.slice K m kc) 26 (.int .i64 l) (.bool d) (.bool i) (.bool g) (.bool n) 28
    have f2 := Lib.hid f2
    have p2 := Lib.hid p2
    have b2 := Lib.hid (hb1.trans (b2.mono hb1.size))
    obtain ⟨R, hR⟩ : ∃ R, fitsB k o l d i g n = R := ⟨_, rfl⟩
    have hsf := fun A n' c W => s_fits k o t u A n' c l d i g n W
    have hif := fun A n' c W => i_fits k o t u A n' c l d i g n W
    rw [hR] at hsf hif
    have hRH := Lib.hid hR
    clear hR hs2 hp
    go_wp2_with fail
    refine (hif _ _ _ _).mono ?_
    rintro e x3 ⟨rfl, hb3⟩
    have f3 := Lib.hid (f2.out.keep hb3 (by simp; omega))
    have p3 := Lib.hid (p2.out.keep hb3 (by simp))
    have b3 := Lib.hid (b2.out.trans (hb3.mono b2.out.size))
    have hs3 : w1.heap.size + 1 < x3.heap.size := by have := hb3.size; simp at this; omega
    clear hb3
    obtain ⟨c0, c1, c2, c3, c4⟩ := f3.out
    obtain ⟨q0, q1, q2, q3, q4⟩ := p3.out
    go_wp2_with fail
    refine (hsf _ _ _ _).mono ?_
    rintro e x4 ⟨rfl, hb4⟩
    have f4 := Lib.hid (f3.out.keep hb4 (by omega))
    have p4 := Lib.hid (p3.out.keep hb4 (by omega))
    have b4 := Lib.hid (b3.out.trans (hb4.mono b3.out.size))
    have hs4 : w1.heap.size + 1 < x4.heap.size := by have := hb4.size; omega
    clear hb4 c0 c1 c2 c3 c4 q0 q1 q2 q3 q4 f3 p3 b3 f2 p2 b2
    cases R
    · go_wp2_with fail
      go_ret
      exact ⟨rfl, b4.out⟩
    · obtain ⟨hf1, hf2, hpo, hlw⟩ := fitsB_law hRH.out
      have f5 := Lib.hid (f4.out.keep ((Below.refl x4.heap.size x4).alloc (Nat.le_refl _) (.cells #[.int .i64 l, .bool d, .bool false, .bool false, .bool false] 28)) (by omega))
      have p5 := Lib.hid (p4.out.keep ((Below.refl x4.heap.size x4).alloc (Nat.le_refl _) (.cells #[.int .i64 l, .bool d, .bool false, .bool false, .bool false] 28)) (by omega))
      have z5 := Lib.hid (Five.made x4 (.int .i64 l) (.bool d) (.bool false) (.bool false) (.bool false) 28)
      have b5 := Lib.hid (b4.out.alloc b4.out.size (.cells #[.int .i64 l, .bool d, .bool false, .bool false, .bool false] 28))
      have j3 := fun A n' c W => i_levelOf k o t u A n' c W
      obtain ⟨L, hL⟩ : ∃ L, levelOf k o = L := ⟨_, rfl⟩
      rw [hL] at j3 hlw
      have j4 := fun W => i_levelWord L W
      obtain ⟨S, hS⟩ : ∃ S, levelWord L = S := ⟨_, rfl⟩
      rw [hS] at j4 hlw
      have j5 := fun W => i_posOk l d i g n W
      rw [hpo] at j5
      have hSb : S.toList.isEmpty = false := by
        have h := text_ne hlw
        cases hS2 : S.toList with
        | nil => exact absurd hS2 h
        | cons x r => rfl
      have f1H := Lib.hid hf1
      have f2H := Lib.hid hf2
      have i3 := Lib.hid j3
      have i4 := Lib.hid j4
      have i5 := Lib.hid j5
      clear hL hS hf1 hf2 hpo hlw hif hsf j3 j4 j5
      obtain ⟨c0, c1, c2, c3, c4⟩ := f4.out
      obtain ⟨q0, q1, q2, q3, q4⟩ := p4.out
      have hkeep : ∀ W', Below (x4.alloc (.cells #[.int .i64 l, .bool d, .bool false, .bool false, .bool false] 28)).heap.size (x4.alloc (.cells #[.int .i64 l, .bool d, .bool false, .bool false, .bool false] 28)) W' →
          W'.cell? ⟨w1.heap.size, 0, none⟩ = some (.int .i64 k) ∧ W'.cell? ⟨w1.heap.size, 1, none⟩ = some (.int .i64 o) ∧ W'.cell? ⟨w1.heap.size, 2, none⟩ = some (.string t) ∧ W'.cell? ⟨w1.heap.size, 3, none⟩ = some (.string u) ∧ W'.cell? ⟨w1.heap.size, 4, none⟩ = some (.slice K m kc) ∧
          W'.cell? ⟨w1.heap.size + 1, 0, none⟩ = some (.int .i64 l) ∧ W'.cell? ⟨w1.heap.size + 1, 1, none⟩ = some (.bool d) ∧ W'.cell? ⟨w1.heap.size + 1, 2, none⟩ = some (.bool i) ∧ W'.cell? ⟨w1.heap.size + 1, 3, none⟩ = some (.bool g) ∧ W'.cell? ⟨w1.heap.size + 1, 4, none⟩ = some (.bool n) ∧
          W'.cell? ⟨x4.heap.size, 0, none⟩ = some (.int .i64 l) ∧ W'.cell? ⟨x4.heap.size, 1, none⟩ = some (.bool d) ∧ W'.cell? ⟨x4.heap.size, 2, none⟩ = some (.bool false) ∧ W'.cell? ⟨x4.heap.size, 3, none⟩ = some (.bool false) ∧ W'.cell? ⟨x4.heap.size, 4, none⟩ = some (.bool false) := fun W' hb => by
        obtain ⟨a0, a1, a2, a3, a4⟩ := f5.out.keep hb (by simp; omega)
        obtain ⟨e0, e1, e2, e3, e4⟩ := p5.out.keep hb (by simp; omega)
        obtain ⟨j0, j1, j2, j3, j4⟩ := z5.out.keep hb (by simp)
        exact ⟨a0, a1, a2, a3, a4, e0, e1, e2, e3, e4, j0, j1, j2, j3, j4⟩
      go_wp2_with fail
      obtain ⟨W5, hW5⟩ : ∃ W, (x4.alloc (.cells #[.int .i64 l, .bool d, .bool false, .bool false, .bool false] 28)) = W := ⟨_, rfl⟩
      rw [hW5] at hkeep b5 ⊢
      have hkH := Lib.hid (show ∀ W, Below W5.drew.heap.size W5.drew W → W.cell? ⟨w1.heap.size, 0, none⟩ = some (.int .i64 k) ∧ W.cell? ⟨w1.heap.size, 1, none⟩ = some (.int .i64 o) ∧ W.cell? ⟨w1.heap.size, 2, none⟩ = some (.string t) ∧ W.cell? ⟨w1.heap.size, 3, none⟩ = some (.string u) ∧ W.cell? ⟨w1.heap.size, 4, none⟩ = some (.slice K m kc) ∧ W.cell? ⟨w1.heap.size + 1, 0, none⟩ = some (.int .i64 l) ∧ W.cell? ⟨w1.heap.size + 1, 1, none⟩ = some (.bool d) ∧ W.cell? ⟨w1.heap.size + 1, 2, none⟩ = some (.bool i) ∧ W.cell? ⟨w1.heap.size + 1, 3, none⟩ = some (.bool g) ∧ W.cell? ⟨w1.heap.size + 1, 4, none⟩ = some (.bool n) ∧ W.cell? ⟨x4.heap.size, 0, none⟩ = some (.int .i64 l) ∧ W.cell? ⟨x4.heap.size, 1, none⟩ = some (.bool d) ∧ W.cell? ⟨x4.heap.size, 2, none⟩ = some (.bool false) ∧ W.cell? ⟨x4.heap.size, 3, none⟩ = some (.bool false) ∧ W.cell? ⟨x4.heap.size, 4, none⟩ = some (.bool false) from fun W hb => hkeep W ⟨hb.os, hb.tape, hb.output, hb.size, hb.block⟩)
      have bd : Hid (Below w.heap.size w W5.drew) := below_drewN b5.out 1
      have bacc : Below W5.drew.heap.size W5.drew W5.drew := Below.refl _ _
      clear hW5 hkeep c0 c1 c2 c3 c4 q0 q1 q2 q3 q4
      go_region_held3 (fun W => W.cell? ⟨w1.heap.size, 0, none⟩ = some (.int .i64 k) ∧ W.cell? ⟨w1.heap.size, 1, none⟩ = some (.int .i64 o) ∧ W.cell? ⟨w1.heap.size, 2, none⟩ = some (.string t) ∧ W.cell? ⟨w1.heap.size, 3, none⟩ = some (.string u) ∧ W.cell? ⟨w1.heap.size, 4, none⟩ = some (.slice K m kc) ∧ W.cell? ⟨w1.heap.size + 1, 0, none⟩ = some (.int .i64 l) ∧ W.cell? ⟨w1.heap.size + 1, 1, none⟩ = some (.bool d) ∧ W.cell? ⟨w1.heap.size + 1, 2, none⟩ = some (.bool i) ∧ W.cell? ⟨w1.heap.size + 1, 3, none⟩ = some (.bool g) ∧ W.cell? ⟨w1.heap.size + 1, 4, none⟩ = some (.bool n) ∧ W.cell? ⟨x4.heap.size, 0, none⟩ = some (.int .i64 l) ∧ W.cell? ⟨x4.heap.size, 1, none⟩ = some (.bool d) ∧ W.cell? ⟨x4.heap.size, 2, none⟩ = some (.bool false) ∧ W.cell? ⟨x4.heap.size, 3, none⟩ = some (.bool false) ∧ W.cell? ⟨x4.heap.size, 4, none⟩ = some (.bool false)) (exact hkH.out _ bacc) (first
        | ((go_at_call 7; refine (i_fits_true _ _ _ _ _ _ _ _ _ _ _ _ _ (by first | exact f1H.out | exact f2H.out)).mono ?_; rintro e x6 ⟨rfl, ba⟩; have bacc := Below.trans bacc (ba.mono bacc.size); clear ba))
        | ((go_at_call 9; refine (i_top _).mono ?_; rintro e x7 ⟨rfl, ba⟩; have bacc := Below.trans bacc (ba.mono bacc.size); clear ba))
        | ((go_at_call 11; refine (i3.out _ _ _ _).mono ?_; rintro e x9 ⟨rfl, ba⟩; have bacc := Below.trans bacc (ba.mono bacc.size); clear ba))
        | ((go_at_call 10; refine (i4.out _).mono ?_; rintro e x10 ⟨rfl, rfl⟩))
        | ((go_at_call 12; refine (i5.out _).mono ?_; rintro e x11 ⟨rfl, ba⟩; have bacc := Below.trans bacc (ba.mono bacc.size); clear ba)))
      go_wp2_with fail
      go_ret
      exact ⟨rfl, bd.out.trans (bacc.mono bd.out.size)⟩
end Go.Proofs.Ytlabmboedjnpmaa
