/- The gap between two tokens, both sides: NeedsGap (walks). -/
import Derived.Test.YtdajhcammnlonaaDoorLawsOpAt
import Derived.Test.YtdajhcammnlonaaDoorTokOkI
import Derived.Test.YtdajhcammnlonaaDoorLexPure
namespace Go.Proofs.YtdajhcammnlonaaDoor
open Go.RowKit
set_option linter.unusedVariables false
theorem str_ne {t : ByteArray} (h0 : t.size ≠ 0) : (t.toList == []) = false := by
  rw [ByteArray.toList_eq, beq_eq_false_iff_ne]
  intro c
  exact h0 (by rw [← ByteArray.size_data, ← Array.length_toList, c]; rfl)
theorem gap_empty1 (k1 k2 p1 p2 : Int) (t2 : ByteArray) : gapB ⟨k1, ⟨#[]⟩, p1⟩ ⟨k2, t2, p2⟩ = false := by
  unfold gapB; rw [if_pos (.inl rfl)]
theorem gap_empty2 (k1 k2 p1 p2 : Int) (t1 : ByteArray) : gapB ⟨k1, t1, p1⟩ ⟨k2, ⟨#[]⟩, p2⟩ = false := by
  unfold gapB; rw [if_pos (.inr (.inl rfl))]
theorem gap_kinds {k1 k2 p1 p2 : Int} {t1 t2 : ByteArray} (h : k1 = 2 ∨ k1 = 1 ∨ k2 = 1) : gapB ⟨k1, t1, p1⟩ ⟨k2, t2, p2⟩ = false := by
  unfold gapB; rw [if_pos (.inr (.inr h))]
theorem gap_rest {k1 k2 p1 p2 lb fb : Int} {t1 t2 : ByteArray} (n1 : t1.size ≠ 0) (n2 : t2.size ≠ 0) (c1 : (k1 == 2) = false) (c2 : (k1 == 1) = false) (c3 : (k2 == 1) = false) (hl : bAt t1 (t1.size - 1) = lb) (hf : bAt t2 0 = fb) :
    gapB ⟨k1, t1, p1⟩ ⟨k2, t2, p2⟩ = if isWordB lb && isWordB fb then true else if k1 == 3 && (isWordB fb || fb == 46) then true else if k1 == 6 && k2 == 32 then true else inB k1 30 68 && decide (t1.size < (opAt (t1 ++ t2) 0).2) := by
  have d1 : k1 ≠ 2 := by simpa using c1
  have d2 : k1 ≠ 1 := by simpa using c2
  have d3 : k2 ≠ 1 := by simpa using c3
  unfold gapB
  rw [if_neg (by simp only; omega)]
  simp only
  rw [hl, hf]
theorem last_byte {t : ByteArray} (h : 0 < t.size) : bAt t (t.size - 1) = ((t[t.size - 1]'(by omega)).toNat : Int) := by
  have h1 : ((t.size : Int) - 1) = ((t.size - 1 : Nat) : Int) := by omega
  rw [h1]
  exact bAt_nat (by omega)
theorem TabAt.drewN {w : World} {g : Nat} {l : List (List UInt8)} (h : TabAt w g l) (n : Nat) : TabAt (w.drewN n) g l := h
theorem gap_box (w y : World) (u0 u1 u2 v0 v1 v2 : Value) (t : TypeId) (hb : Below ((w.alloc (.cells #[u0, u1, u2] t)).alloc (.cells #[v0, v1, v2] t)).heap.size ((w.alloc (.cells #[u0, u1, u2] t)).alloc (.cells #[v0, v1, v2] t)) y) : y.cell? ⟨w.heap.size, 0, none⟩ = some u0 ∧ y.cell? ⟨w.heap.size, 1, none⟩ = some u1 ∧ Below w.heap.size w y := by
  have k0 := ((Has.made w t #[u0, u1, u2]).alloc (.cells #[v0, v1, v2] t)).below hb (by simp; omega)
  exact ⟨k0.get rfl, k0.get rfl, (((Below.refl w.heap.size w).alloc (Nat.le_refl _) _).alloc (by simp) _).trans (hb.mono (by simp; omega))⟩
set_option maxRecDepth 100000 in
set_option maxHeartbeats 2000000 in
theorem s_gap (k1 k2 p1 p2 : Int) (t1 t2 : ByteArray) (w : World) (h1 : t1.size ≤ 1048576) (h2 : t2.size ≤ 1048576) : Calls Tryd.prog 102 #[.agg #[.int .i64 k1, .string t1, .int .i64 p1], .agg #[.int .i64 k2, .string t2, .int .i64 p2]] w fun e w' => e = .returned (.bool (gapB ⟨k1, t1, p1⟩ ⟨k2, t2, p2⟩)) ∧ Below w.heap.size w w' := by
  by_cases n1 : t1.size = 0
  · obtain rfl : t1 = ⟨#[]⟩ := tok_empty n1
    clear n1
    rw [gap_empty1]
    go_enter Tryd.func102, Tryd.ntmps102
    go_wp2_with fail
    go_ret
    exact ⟨rfl, ((Below.refl _ _).alloc (Nat.le_refl _) _).alloc (by simp) _⟩
  have e1 := str_ne n1
  by_cases n2 : t2.size = 0
  · obtain rfl : t2 = ⟨#[]⟩ := tok_empty n2
    clear n2
    rw [gap_empty2]
    go_enter Tryd.func102, Tryd.ntmps102
    go_wp2_with fail
    go_ret
    exact ⟨rfl, ((Below.refl _ _).alloc (Nat.le_refl _) _).alloc (by simp) _⟩
  have e2 := str_ne n2
  by_cases c1 : (k1 == 2) = true
  · rw [gap_kinds (.inl (by simpa using c1))]
    go_enter Tryd.func102, Tryd.ntmps102
    go_wp2_with fail
    go_ret
    exact ⟨rfl, ((Below.refl _ _).alloc (Nat.le_refl _) _).alloc (by simp) _⟩
  rw [Bool.not_eq_true] at c1
  by_cases c2 : (k1 == 1) = true
  · rw [gap_kinds (.inr (.inl (by simpa using c2)))]
    go_enter Tryd.func102, Tryd.ntmps102
    go_wp2_with fail
    go_ret
    exact ⟨rfl, ((Below.refl _ _).alloc (Nat.le_refl _) _).alloc (by simp) _⟩
  rw [Bool.not_eq_true] at c2
  by_cases c3 : (k2 == 1) = true
  · rw [gap_kinds (.inr (.inr (by simpa using c3)))]
    go_enter Tryd.func102, Tryd.ntmps102
    go_wp2_with fail
    go_ret
    exact ⟨rfl, ((Below.refl _ _).alloc (Nat.le_refl _) _).alloc (by simp) _⟩
  rw [Bool.not_eq_true] at c3
  have hp1 : 0 < t1.size := by omega
  have hp2 : 0 < t2.size := by omega
  have hl0 := last_byte hp1
  have hf0 : bAt t2 0 = ((t2[0]'hp2).toNat : Int) := bAt_nat hp2
  obtain ⟨lb, hlb⟩ : ∃ lb : Int, ((t1[t1.size - 1]'(by omega)).toNat : Int) = lb := ⟨_, rfl⟩
  obtain ⟨fb, hfb⟩ : ∃ fb : Int, ((t2[0]'hp2).toNat : Int) = fb := ⟨_, rfl⟩
  have hlr : 0 ≤ lb ∧ lb < 256 := by have := (t1[t1.size - 1]'(by omega)).toNat_lt; omega
  have hfr : 0 ≤ fb ∧ fb < 256 := by have := (t2[0]'hp2).toNat_lt; omega
  rw [hlb] at hl0
  rw [hfb] at hf0
  have hg0 := gap_rest (p1 := p1) (p2 := p2) n1 n2 c1 c2 c3 hl0 hf0
  obtain ⟨R, hR⟩ : ∃ R, gapB ⟨k1, t1, p1⟩ ⟨k2, t2, p2⟩ = R := ⟨_, rfl⟩
  rw [hR] at hg0 ⊢
  obtain ⟨P, hP⟩ : ∃ P, opAt (t1 ++ t2) 0 = P := ⟨_, rfl⟩
  rw [hP] at hg0
  obtain ⟨pk, pn⟩ := P
  have hPH := Lib.hid hP
  have hsz : (t1 ++ t2).size ≤ 16777216 := by rw [ByteArray.size_append]; omega
  have hz0 : 0 < (t1 ++ t2).size := by rw [ByteArray.size_append]; omega
  have hszH := Lib.hid hsz
  have hz0H := Lib.hid hz0
  have hg := Lib.hid hg0
  clear hl0 hf0 hg0 hR hP hsz hz0 n1 n2
  cases hL : isWordB lb
  · cases hF : isWordB fb
    · skip
      cases c4 : k1 == 3
      · cases c5 : k1 == 6
        · cases c6 : inB k1 30 68
          · skip
            obtain rfl : R = false := by rw [hg.out]; simp [*]
            go_enter Tryd.func102, Tryd.ntmps102
            go_wp2_with (go_at_call 87; refine (s_isWord _ _).mono ?_; rintro e w' ⟨rfl, rfl⟩)
            refine (s_opAt _ 0 _ hszH.out hz0H.out).mono ?_
            rintro e w1 ⟨rfl, hb1⟩
            rw [show opAt (t1 ++ t2) ((0 : Nat) : Int) = (pk, pn) from hPH.out]
            obtain ⟨m0, m1, hb2⟩ := gap_box w w1 _ _ _ _ _ _ 36 hb1
            have hb2H := Lib.hid hb2
            clear hb1 hb2
            go_wp2_with (go_at_call 58; refine (s_l1In _ _ _ _).mono ?_; rintro e w' ⟨rfl, rfl⟩)
            go_ret
            exact ⟨rfl, hb2H.out⟩
          · by_cases hlt : t1.size < pn
            · have hld : decide (t1.size < pn) = true := decide_eq_true hlt
              obtain rfl : R = true := by rw [hg.out]; simp [*]
              go_enter Tryd.func102, Tryd.ntmps102
              go_wp2_with (go_at_call 87; refine (s_isWord _ _).mono ?_; rintro e w' ⟨rfl, rfl⟩)
              refine (s_opAt _ 0 _ hszH.out hz0H.out).mono ?_
              rintro e w1 ⟨rfl, hb1⟩
              rw [show opAt (t1 ++ t2) ((0 : Nat) : Int) = (pk, pn) from hPH.out]
              obtain ⟨m0, m1, hb2⟩ := gap_box w w1 _ _ _ _ _ _ 36 hb1
              have hb2H := Lib.hid hb2
              clear hb1 hb2
              go_wp2_with (go_at_call 58; refine (s_l1In _ _ _ _).mono ?_; rintro e w' ⟨rfl, rfl⟩)
              go_ret
              exact ⟨rfl, hb2H.out⟩
            · have hld : decide (t1.size < pn) = false := decide_eq_false hlt
              obtain rfl : R = false := by rw [hg.out]; simp [*]
              go_enter Tryd.func102, Tryd.ntmps102
              go_wp2_with (go_at_call 87; refine (s_isWord _ _).mono ?_; rintro e w' ⟨rfl, rfl⟩)
              refine (s_opAt _ 0 _ hszH.out hz0H.out).mono ?_
              rintro e w1 ⟨rfl, hb1⟩
              rw [show opAt (t1 ++ t2) ((0 : Nat) : Int) = (pk, pn) from hPH.out]
              obtain ⟨m0, m1, hb2⟩ := gap_box w w1 _ _ _ _ _ _ 36 hb1
              have hb2H := Lib.hid hb2
              clear hb1 hb2
              go_wp2_with (go_at_call 58; refine (s_l1In _ _ _ _).mono ?_; rintro e w' ⟨rfl, rfl⟩)
              go_ret
              exact ⟨rfl, hb2H.out⟩
        · obtain rfl : k1 = 6 := by simpa using c5
          have c6 : inB 6 30 68 = false := by decide
          cases c7 : k2 == 32
          · skip
            obtain rfl : R = false := by rw [hg.out]; simp [*]
            go_enter Tryd.func102, Tryd.ntmps102
            go_wp2_with (go_at_call 87; refine (s_isWord _ _).mono ?_; rintro e w' ⟨rfl, rfl⟩)
            refine (s_opAt _ 0 _ hszH.out hz0H.out).mono ?_
            rintro e w1 ⟨rfl, hb1⟩
            rw [show opAt (t1 ++ t2) ((0 : Nat) : Int) = (pk, pn) from hPH.out]
            obtain ⟨m0, m1, hb2⟩ := gap_box w w1 _ _ _ _ _ _ 36 hb1
            have hb2H := Lib.hid hb2
            clear hb1 hb2
            go_wp2_with (go_at_call 58; refine (s_l1In _ _ _ _).mono ?_; rintro e w' ⟨rfl, rfl⟩)
            go_ret
            exact ⟨rfl, hb2H.out⟩
          · skip
            obtain rfl : R = true := by rw [hg.out]; simp [*]
            go_enter Tryd.func102, Tryd.ntmps102
            go_wp2_with (go_at_call 87; refine (s_isWord _ _).mono ?_; rintro e w' ⟨rfl, rfl⟩)
            go_ret
            exact ⟨rfl, ((Below.refl _ _).alloc (Nat.le_refl _) _).alloc (by simp) _⟩
      · obtain rfl : k1 = 3 := by simpa using c4
        have c6 : inB 3 30 68 = false := by decide
        cases c8 : fb == 46
        · skip
          obtain rfl : R = false := by rw [hg.out]; simp [*]
          go_enter Tryd.func102, Tryd.ntmps102
          go_wp2_with (go_at_call 87; refine (s_isWord _ _).mono ?_; rintro e w' ⟨rfl, rfl⟩)
          refine (s_opAt _ 0 _ hszH.out hz0H.out).mono ?_
          rintro e w1 ⟨rfl, hb1⟩
          rw [show opAt (t1 ++ t2) ((0 : Nat) : Int) = (pk, pn) from hPH.out]
          obtain ⟨m0, m1, hb2⟩ := gap_box w w1 _ _ _ _ _ _ 36 hb1
          have hb2H := Lib.hid hb2
          clear hb1 hb2
          go_wp2_with (go_at_call 58; refine (s_l1In _ _ _ _).mono ?_; rintro e w' ⟨rfl, rfl⟩)
          go_ret
          exact ⟨rfl, hb2H.out⟩
        · skip
          obtain rfl : R = true := by rw [hg.out]; simp [*]
          go_enter Tryd.func102, Tryd.ntmps102
          go_wp2_with (go_at_call 87; refine (s_isWord _ _).mono ?_; rintro e w' ⟨rfl, rfl⟩)
          go_ret
          exact ⟨rfl, ((Below.refl _ _).alloc (Nat.le_refl _) _).alloc (by simp) _⟩
    · skip
      cases c4 : k1 == 3
      · cases c5 : k1 == 6
        · cases c6 : inB k1 30 68
          · skip
            obtain rfl : R = false := by rw [hg.out]; simp [*]
            go_enter Tryd.func102, Tryd.ntmps102
            go_wp2_with (go_at_call 87; refine (s_isWord _ _).mono ?_; rintro e w' ⟨rfl, rfl⟩)
            refine (s_opAt _ 0 _ hszH.out hz0H.out).mono ?_
            rintro e w1 ⟨rfl, hb1⟩
            rw [show opAt (t1 ++ t2) ((0 : Nat) : Int) = (pk, pn) from hPH.out]
            obtain ⟨m0, m1, hb2⟩ := gap_box w w1 _ _ _ _ _ _ 36 hb1
            have hb2H := Lib.hid hb2
            clear hb1 hb2
            go_wp2_with (go_at_call 58; refine (s_l1In _ _ _ _).mono ?_; rintro e w' ⟨rfl, rfl⟩)
            go_ret
            exact ⟨rfl, hb2H.out⟩
          · by_cases hlt : t1.size < pn
            · have hld : decide (t1.size < pn) = true := decide_eq_true hlt
              obtain rfl : R = true := by rw [hg.out]; simp [*]
              go_enter Tryd.func102, Tryd.ntmps102
              go_wp2_with (go_at_call 87; refine (s_isWord _ _).mono ?_; rintro e w' ⟨rfl, rfl⟩)
              refine (s_opAt _ 0 _ hszH.out hz0H.out).mono ?_
              rintro e w1 ⟨rfl, hb1⟩
              rw [show opAt (t1 ++ t2) ((0 : Nat) : Int) = (pk, pn) from hPH.out]
              obtain ⟨m0, m1, hb2⟩ := gap_box w w1 _ _ _ _ _ _ 36 hb1
              have hb2H := Lib.hid hb2
              clear hb1 hb2
              go_wp2_with (go_at_call 58; refine (s_l1In _ _ _ _).mono ?_; rintro e w' ⟨rfl, rfl⟩)
              go_ret
              exact ⟨rfl, hb2H.out⟩
            · have hld : decide (t1.size < pn) = false := decide_eq_false hlt
              obtain rfl : R = false := by rw [hg.out]; simp [*]
              go_enter Tryd.func102, Tryd.ntmps102
              go_wp2_with (go_at_call 87; refine (s_isWord _ _).mono ?_; rintro e w' ⟨rfl, rfl⟩)
              refine (s_opAt _ 0 _ hszH.out hz0H.out).mono ?_
              rintro e w1 ⟨rfl, hb1⟩
              rw [show opAt (t1 ++ t2) ((0 : Nat) : Int) = (pk, pn) from hPH.out]
              obtain ⟨m0, m1, hb2⟩ := gap_box w w1 _ _ _ _ _ _ 36 hb1
              have hb2H := Lib.hid hb2
              clear hb1 hb2
              go_wp2_with (go_at_call 58; refine (s_l1In _ _ _ _).mono ?_; rintro e w' ⟨rfl, rfl⟩)
              go_ret
              exact ⟨rfl, hb2H.out⟩
        · obtain rfl : k1 = 6 := by simpa using c5
          have c6 : inB 6 30 68 = false := by decide
          cases c7 : k2 == 32
          · skip
            obtain rfl : R = false := by rw [hg.out]; simp [*]
            go_enter Tryd.func102, Tryd.ntmps102
            go_wp2_with (go_at_call 87; refine (s_isWord _ _).mono ?_; rintro e w' ⟨rfl, rfl⟩)
            refine (s_opAt _ 0 _ hszH.out hz0H.out).mono ?_
            rintro e w1 ⟨rfl, hb1⟩
            rw [show opAt (t1 ++ t2) ((0 : Nat) : Int) = (pk, pn) from hPH.out]
            obtain ⟨m0, m1, hb2⟩ := gap_box w w1 _ _ _ _ _ _ 36 hb1
            have hb2H := Lib.hid hb2
            clear hb1 hb2
            go_wp2_with (go_at_call 58; refine (s_l1In _ _ _ _).mono ?_; rintro e w' ⟨rfl, rfl⟩)
            go_ret
            exact ⟨rfl, hb2H.out⟩
          · skip
            obtain rfl : R = true := by rw [hg.out]; simp [*]
            go_enter Tryd.func102, Tryd.ntmps102
            go_wp2_with (go_at_call 87; refine (s_isWord _ _).mono ?_; rintro e w' ⟨rfl, rfl⟩)
            go_ret
            exact ⟨rfl, ((Below.refl _ _).alloc (Nat.le_refl _) _).alloc (by simp) _⟩
      · obtain rfl : k1 = 3 := by simpa using c4
        have c6 : inB 3 30 68 = false := by decide
        obtain rfl : R = true := by rw [hg.out]; simp [*]
        go_enter Tryd.func102, Tryd.ntmps102
        go_wp2_with (go_at_call 87; refine (s_isWord _ _).mono ?_; rintro e w' ⟨rfl, rfl⟩)
        go_ret
        exact ⟨rfl, ((Below.refl _ _).alloc (Nat.le_refl _) _).alloc (by simp) _⟩
  · cases hF : isWordB fb
    · skip
      cases c4 : k1 == 3
      · cases c5 : k1 == 6
        · cases c6 : inB k1 30 68
          · skip
            obtain rfl : R = false := by rw [hg.out]; simp [*]
            go_enter Tryd.func102, Tryd.ntmps102
            go_wp2_with (go_at_call 87; refine (s_isWord _ _).mono ?_; rintro e w' ⟨rfl, rfl⟩)
            refine (s_opAt _ 0 _ hszH.out hz0H.out).mono ?_
            rintro e w1 ⟨rfl, hb1⟩
            rw [show opAt (t1 ++ t2) ((0 : Nat) : Int) = (pk, pn) from hPH.out]
            obtain ⟨m0, m1, hb2⟩ := gap_box w w1 _ _ _ _ _ _ 36 hb1
            have hb2H := Lib.hid hb2
            clear hb1 hb2
            go_wp2_with (go_at_call 58; refine (s_l1In _ _ _ _).mono ?_; rintro e w' ⟨rfl, rfl⟩)
            go_ret
            exact ⟨rfl, hb2H.out⟩
          · by_cases hlt : t1.size < pn
            · have hld : decide (t1.size < pn) = true := decide_eq_true hlt
              obtain rfl : R = true := by rw [hg.out]; simp [*]
              go_enter Tryd.func102, Tryd.ntmps102
              go_wp2_with (go_at_call 87; refine (s_isWord _ _).mono ?_; rintro e w' ⟨rfl, rfl⟩)
              refine (s_opAt _ 0 _ hszH.out hz0H.out).mono ?_
              rintro e w1 ⟨rfl, hb1⟩
              rw [show opAt (t1 ++ t2) ((0 : Nat) : Int) = (pk, pn) from hPH.out]
              obtain ⟨m0, m1, hb2⟩ := gap_box w w1 _ _ _ _ _ _ 36 hb1
              have hb2H := Lib.hid hb2
              clear hb1 hb2
              go_wp2_with (go_at_call 58; refine (s_l1In _ _ _ _).mono ?_; rintro e w' ⟨rfl, rfl⟩)
              go_ret
              exact ⟨rfl, hb2H.out⟩
            · have hld : decide (t1.size < pn) = false := decide_eq_false hlt
              obtain rfl : R = false := by rw [hg.out]; simp [*]
              go_enter Tryd.func102, Tryd.ntmps102
              go_wp2_with (go_at_call 87; refine (s_isWord _ _).mono ?_; rintro e w' ⟨rfl, rfl⟩)
              refine (s_opAt _ 0 _ hszH.out hz0H.out).mono ?_
              rintro e w1 ⟨rfl, hb1⟩
              rw [show opAt (t1 ++ t2) ((0 : Nat) : Int) = (pk, pn) from hPH.out]
              obtain ⟨m0, m1, hb2⟩ := gap_box w w1 _ _ _ _ _ _ 36 hb1
              have hb2H := Lib.hid hb2
              clear hb1 hb2
              go_wp2_with (go_at_call 58; refine (s_l1In _ _ _ _).mono ?_; rintro e w' ⟨rfl, rfl⟩)
              go_ret
              exact ⟨rfl, hb2H.out⟩
        · obtain rfl : k1 = 6 := by simpa using c5
          have c6 : inB 6 30 68 = false := by decide
          cases c7 : k2 == 32
          · skip
            obtain rfl : R = false := by rw [hg.out]; simp [*]
            go_enter Tryd.func102, Tryd.ntmps102
            go_wp2_with (go_at_call 87; refine (s_isWord _ _).mono ?_; rintro e w' ⟨rfl, rfl⟩)
            refine (s_opAt _ 0 _ hszH.out hz0H.out).mono ?_
            rintro e w1 ⟨rfl, hb1⟩
            rw [show opAt (t1 ++ t2) ((0 : Nat) : Int) = (pk, pn) from hPH.out]
            obtain ⟨m0, m1, hb2⟩ := gap_box w w1 _ _ _ _ _ _ 36 hb1
            have hb2H := Lib.hid hb2
            clear hb1 hb2
            go_wp2_with (go_at_call 58; refine (s_l1In _ _ _ _).mono ?_; rintro e w' ⟨rfl, rfl⟩)
            go_ret
            exact ⟨rfl, hb2H.out⟩
          · skip
            obtain rfl : R = true := by rw [hg.out]; simp [*]
            go_enter Tryd.func102, Tryd.ntmps102
            go_wp2_with (go_at_call 87; refine (s_isWord _ _).mono ?_; rintro e w' ⟨rfl, rfl⟩)
            go_ret
            exact ⟨rfl, ((Below.refl _ _).alloc (Nat.le_refl _) _).alloc (by simp) _⟩
      · obtain rfl : k1 = 3 := by simpa using c4
        have c6 : inB 3 30 68 = false := by decide
        cases c8 : fb == 46
        · skip
          obtain rfl : R = false := by rw [hg.out]; simp [*]
          go_enter Tryd.func102, Tryd.ntmps102
          go_wp2_with (go_at_call 87; refine (s_isWord _ _).mono ?_; rintro e w' ⟨rfl, rfl⟩)
          refine (s_opAt _ 0 _ hszH.out hz0H.out).mono ?_
          rintro e w1 ⟨rfl, hb1⟩
          rw [show opAt (t1 ++ t2) ((0 : Nat) : Int) = (pk, pn) from hPH.out]
          obtain ⟨m0, m1, hb2⟩ := gap_box w w1 _ _ _ _ _ _ 36 hb1
          have hb2H := Lib.hid hb2
          clear hb1 hb2
          go_wp2_with (go_at_call 58; refine (s_l1In _ _ _ _).mono ?_; rintro e w' ⟨rfl, rfl⟩)
          go_ret
          exact ⟨rfl, hb2H.out⟩
        · skip
          obtain rfl : R = true := by rw [hg.out]; simp [*]
          go_enter Tryd.func102, Tryd.ntmps102
          go_wp2_with (go_at_call 87; refine (s_isWord _ _).mono ?_; rintro e w' ⟨rfl, rfl⟩)
          go_ret
          exact ⟨rfl, ((Below.refl _ _).alloc (Nat.le_refl _) _).alloc (by simp) _⟩
    · skip
      obtain rfl : R = true := by rw [hg.out]; simp [*]
      go_enter Tryd.func102, Tryd.ntmps102
      go_wp2_with (go_at_call 87; refine (s_isWord _ _).mono ?_; rintro e w' ⟨rfl, rfl⟩)
      go_ret
      exact ⟨rfl, ((Below.refl _ _).alloc (Nat.le_refl _) _).alloc (by simp) _⟩
set_option maxRecDepth 100000 in
set_option maxHeartbeats 2000000 in
theorem i_gap (k1 k2 p1 p2 : Int) (t1 t2 : ByteArray) (w : World) (h1 : t1.size ≤ 1048576) (h2 : t2.size ≤ 1048576) (x1 : TabAt w 1 signL) : Calls Tryd.prog 99 #[.agg #[.int .i64 k1, .string t1, .int .i64 p1], .agg #[.int .i64 k2, .string t2, .int .i64 p2]] w fun e w' => e = .returned (.bool (gapB ⟨k1, t1, p1⟩ ⟨k2, t2, p2⟩)) ∧ Below w.heap.size w w' := by
  have xH := Lib.hid (x1.later (((Below.refl w.heap.size w).alloc (Nat.le_refl _) (.cells #[.int .i64 k1, .string t1, .int .i64 p1] 36)).alloc (by simp) (.cells #[.int .i64 k2, .string t2, .int .i64 p2] 36)))
  clear x1
  by_cases n1 : t1.size = 0
  · obtain rfl : t1 = ⟨#[]⟩ := tok_empty n1
    clear n1
    rw [gap_empty1]
    go_enter Tryd.func99, Tryd.ntmps99
    go_wp2_with fail
    go_ret
    exact ⟨rfl, ((Below.refl _ _).alloc (Nat.le_refl _) _).alloc (by simp) _⟩
  have e1 := str_ne n1
  by_cases n2 : t2.size = 0
  · obtain rfl : t2 = ⟨#[]⟩ := tok_empty n2
    clear n2
    rw [gap_empty2]
    go_enter Tryd.func99, Tryd.ntmps99
    go_wp2_with fail
    go_ret
    exact ⟨rfl, ((Below.refl _ _).alloc (Nat.le_refl _) _).alloc (by simp) _⟩
  have e2 := str_ne n2
  by_cases c1 : (k1 == 2) = true
  · rw [gap_kinds (.inl (by simpa using c1))]
    go_enter Tryd.func99, Tryd.ntmps99
    go_wp2_with fail
    go_ret
    exact ⟨rfl, ((Below.refl _ _).alloc (Nat.le_refl _) _).alloc (by simp) _⟩
  rw [Bool.not_eq_true] at c1
  by_cases c2 : (k1 == 1) = true
  · rw [gap_kinds (.inr (.inl (by simpa using c2)))]
    go_enter Tryd.func99, Tryd.ntmps99
    go_wp2_with fail
    go_ret
    exact ⟨rfl, ((Below.refl _ _).alloc (Nat.le_refl _) _).alloc (by simp) _⟩
  rw [Bool.not_eq_true] at c2
  by_cases c3 : (k2 == 1) = true
  · rw [gap_kinds (.inr (.inr (by simpa using c3)))]
    go_enter Tryd.func99, Tryd.ntmps99
    go_wp2_with fail
    go_ret
    exact ⟨rfl, ((Below.refl _ _).alloc (Nat.le_refl _) _).alloc (by simp) _⟩
  rw [Bool.not_eq_true] at c3
  have hp1 : 0 < t1.size := by omega
  have hp2 : 0 < t2.size := by omega
  have hl0 := last_byte hp1
  have hf0 : bAt t2 0 = ((t2[0]'hp2).toNat : Int) := bAt_nat hp2
  obtain ⟨lb, hlb⟩ : ∃ lb : Int, ((t1[t1.size - 1]'(by omega)).toNat : Int) = lb := ⟨_, rfl⟩
  obtain ⟨fb, hfb⟩ : ∃ fb : Int, ((t2[0]'hp2).toNat : Int) = fb := ⟨_, rfl⟩
  have hlr : 0 ≤ lb ∧ lb < 256 := by have := (t1[t1.size - 1]'(by omega)).toNat_lt; omega
  have hfr : 0 ≤ fb ∧ fb < 256 := by have := (t2[0]'hp2).toNat_lt; omega
  rw [hlb] at hl0
  rw [hfb] at hf0
  have hg0 := gap_rest (p1 := p1) (p2 := p2) n1 n2 c1 c2 c3 hl0 hf0
  obtain ⟨R, hR⟩ : ∃ R, gapB ⟨k1, t1, p1⟩ ⟨k2, t2, p2⟩ = R := ⟨_, rfl⟩
  rw [hR] at hg0 ⊢
  obtain ⟨P, hP⟩ : ∃ P, opAt (t1 ++ t2) 0 = P := ⟨_, rfl⟩
  rw [hP] at hg0
  obtain ⟨pk, pn⟩ := P
  have hPH := Lib.hid hP
  have hsz : (t1 ++ t2).size ≤ 16777216 := by rw [ByteArray.size_append]; omega
  have hz0 : 0 < (t1 ++ t2).size := by rw [ByteArray.size_append]; omega
  have hszH := Lib.hid hsz
  have hz0H := Lib.hid hz0
  have hg := Lib.hid hg0
  clear hl0 hf0 hg0 hR hP hsz hz0 n1 n2
  have gw : IntKind.i64.wrap ((t1.size : Int) - 1) = (t1.size : Int) - 1 := IntWalk.i64_in _ (by omega)
  have gw0 : 0 ≤ (t1.size : Int) - 1 := by omega
  have gw1 : ((t1.size : Int) - 1).toNat = t1.size - 1 := by omega
  have gw2 : t1.size - 1 < t1.size := by omega
  have gw3 : (t1.size : Int) - 1 < (t1.size : Int) := by omega
  have gx1 : IntKind.i64.wrap lb = lb := IntWalk.i64_in _ (by omega)
  have gx2 : IntKind.i64.wrap fb = fb := IntWalk.i64_in _ (by omega)
  cases hL : isWordB lb
  · cases hF : isWordB fb
    · skip
      cases c4 : k1 == 3
      · cases c5 : k1 == 6
        · cases c6 : inB k1 30 68
          · skip
            obtain rfl : R = false := by rw [hg.out]; simp [*]
            go_enter Tryd.func99, Tryd.ntmps99
            go_wp2_with fail
            go_quiet (fail)
            go_wp2_with (first | (go_at_call 68; refine (i_isWord _ _).mono ?_; rintro e w' ⟨rfl, rfl⟩) | (go_at_call 57; refine (i_isSignKind _ _).mono ?_; rintro e w' ⟨rfl, rfl⟩) | (go_at_call 15; refine (i_opAt _ 0 _ hszH.out hz0H.out (xH.out.drewN _)).mono ?_; rintro e w' ⟨rfl, rfl⟩; rw [show opAt (t1 ++ t2) ((0 : Nat) : Int) = (pk, pn) from hPH.out]))
            go_ret
            exact ⟨rfl, below_drewN (((Below.refl _ _).alloc (Nat.le_refl _) _).alloc (by simp) _) _⟩
          · by_cases hlt : t1.size < pn
            · have hld : decide (t1.size < pn) = true := decide_eq_true hlt
              obtain rfl : R = true := by rw [hg.out]; simp [*]
              go_enter Tryd.func99, Tryd.ntmps99
              go_wp2_with fail
              go_quiet (fail)
              go_wp2_with (first | (go_at_call 68; refine (i_isWord _ _).mono ?_; rintro e w' ⟨rfl, rfl⟩) | (go_at_call 57; refine (i_isSignKind _ _).mono ?_; rintro e w' ⟨rfl, rfl⟩) | (go_at_call 15; refine (i_opAt _ 0 _ hszH.out hz0H.out (xH.out.drewN _)).mono ?_; rintro e w' ⟨rfl, rfl⟩; rw [show opAt (t1 ++ t2) ((0 : Nat) : Int) = (pk, pn) from hPH.out]))
              go_ret
              exact ⟨rfl, below_drewN (((Below.refl _ _).alloc (Nat.le_refl _) _).alloc (by simp) _) _⟩
            · have hld : decide (t1.size < pn) = false := decide_eq_false hlt
              obtain rfl : R = false := by rw [hg.out]; simp [*]
              go_enter Tryd.func99, Tryd.ntmps99
              go_wp2_with fail
              go_quiet (fail)
              go_wp2_with (first | (go_at_call 68; refine (i_isWord _ _).mono ?_; rintro e w' ⟨rfl, rfl⟩) | (go_at_call 57; refine (i_isSignKind _ _).mono ?_; rintro e w' ⟨rfl, rfl⟩) | (go_at_call 15; refine (i_opAt _ 0 _ hszH.out hz0H.out (xH.out.drewN _)).mono ?_; rintro e w' ⟨rfl, rfl⟩; rw [show opAt (t1 ++ t2) ((0 : Nat) : Int) = (pk, pn) from hPH.out]))
              go_ret
              exact ⟨rfl, below_drewN (((Below.refl _ _).alloc (Nat.le_refl _) _).alloc (by simp) _) _⟩
        · obtain rfl : k1 = 6 := by simpa using c5
          have c6 : inB 6 30 68 = false := by decide
          cases c7 : k2 == 32
          · skip
            obtain rfl : R = false := by rw [hg.out]; simp [*]
            go_enter Tryd.func99, Tryd.ntmps99
            go_wp2_with fail
            go_quiet (fail)
            go_wp2_with (first | (go_at_call 68; refine (i_isWord _ _).mono ?_; rintro e w' ⟨rfl, rfl⟩) | (go_at_call 57; refine (i_isSignKind _ _).mono ?_; rintro e w' ⟨rfl, rfl⟩) | (go_at_call 15; refine (i_opAt _ 0 _ hszH.out hz0H.out (xH.out.drewN _)).mono ?_; rintro e w' ⟨rfl, rfl⟩; rw [show opAt (t1 ++ t2) ((0 : Nat) : Int) = (pk, pn) from hPH.out]))
            go_ret
            exact ⟨rfl, below_drewN (((Below.refl _ _).alloc (Nat.le_refl _) _).alloc (by simp) _) _⟩
          · skip
            obtain rfl : R = true := by rw [hg.out]; simp [*]
            go_enter Tryd.func99, Tryd.ntmps99
            go_wp2_with fail
            go_quiet (fail)
            go_wp2_with (go_at_call 68; refine (i_isWord _ _).mono ?_; rintro e w' ⟨rfl, rfl⟩)
            go_ret
            exact ⟨rfl, below_drewN (((Below.refl _ _).alloc (Nat.le_refl _) _).alloc (by simp) _) _⟩
      · obtain rfl : k1 = 3 := by simpa using c4
        have c6 : inB 3 30 68 = false := by decide
        cases c8 : fb == 46
        · skip
          obtain rfl : R = false := by rw [hg.out]; simp [*]
          go_enter Tryd.func99, Tryd.ntmps99
          go_wp2_with fail
          go_quiet (fail)
          go_wp2_with (first | (go_at_call 68; refine (i_isWord _ _).mono ?_; rintro e w' ⟨rfl, rfl⟩) | (go_at_call 57; refine (i_isSignKind _ _).mono ?_; rintro e w' ⟨rfl, rfl⟩) | (go_at_call 15; refine (i_opAt _ 0 _ hszH.out hz0H.out (xH.out.drewN _)).mono ?_; rintro e w' ⟨rfl, rfl⟩; rw [show opAt (t1 ++ t2) ((0 : Nat) : Int) = (pk, pn) from hPH.out]))
          go_ret
          exact ⟨rfl, below_drewN (((Below.refl _ _).alloc (Nat.le_refl _) _).alloc (by simp) _) _⟩
        · skip
          obtain rfl : R = true := by rw [hg.out]; simp [*]
          go_enter Tryd.func99, Tryd.ntmps99
          go_wp2_with fail
          go_quiet (fail)
          go_wp2_with (go_at_call 68; refine (i_isWord _ _).mono ?_; rintro e w' ⟨rfl, rfl⟩)
          go_ret
          exact ⟨rfl, below_drewN (((Below.refl _ _).alloc (Nat.le_refl _) _).alloc (by simp) _) _⟩
    · skip
      cases c4 : k1 == 3
      · cases c5 : k1 == 6
        · cases c6 : inB k1 30 68
          · skip
            obtain rfl : R = false := by rw [hg.out]; simp [*]
            go_enter Tryd.func99, Tryd.ntmps99
            go_wp2_with fail
            go_quiet (fail)
            go_wp2_with (first | (go_at_call 68; refine (i_isWord _ _).mono ?_; rintro e w' ⟨rfl, rfl⟩) | (go_at_call 57; refine (i_isSignKind _ _).mono ?_; rintro e w' ⟨rfl, rfl⟩) | (go_at_call 15; refine (i_opAt _ 0 _ hszH.out hz0H.out (xH.out.drewN _)).mono ?_; rintro e w' ⟨rfl, rfl⟩; rw [show opAt (t1 ++ t2) ((0 : Nat) : Int) = (pk, pn) from hPH.out]))
            go_ret
            exact ⟨rfl, below_drewN (((Below.refl _ _).alloc (Nat.le_refl _) _).alloc (by simp) _) _⟩
          · by_cases hlt : t1.size < pn
            · have hld : decide (t1.size < pn) = true := decide_eq_true hlt
              obtain rfl : R = true := by rw [hg.out]; simp [*]
              go_enter Tryd.func99, Tryd.ntmps99
              go_wp2_with fail
              go_quiet (fail)
              go_wp2_with (first | (go_at_call 68; refine (i_isWord _ _).mono ?_; rintro e w' ⟨rfl, rfl⟩) | (go_at_call 57; refine (i_isSignKind _ _).mono ?_; rintro e w' ⟨rfl, rfl⟩) | (go_at_call 15; refine (i_opAt _ 0 _ hszH.out hz0H.out (xH.out.drewN _)).mono ?_; rintro e w' ⟨rfl, rfl⟩; rw [show opAt (t1 ++ t2) ((0 : Nat) : Int) = (pk, pn) from hPH.out]))
              go_ret
              exact ⟨rfl, below_drewN (((Below.refl _ _).alloc (Nat.le_refl _) _).alloc (by simp) _) _⟩
            · have hld : decide (t1.size < pn) = false := decide_eq_false hlt
              obtain rfl : R = false := by rw [hg.out]; simp [*]
              go_enter Tryd.func99, Tryd.ntmps99
              go_wp2_with fail
              go_quiet (fail)
              go_wp2_with (first | (go_at_call 68; refine (i_isWord _ _).mono ?_; rintro e w' ⟨rfl, rfl⟩) | (go_at_call 57; refine (i_isSignKind _ _).mono ?_; rintro e w' ⟨rfl, rfl⟩) | (go_at_call 15; refine (i_opAt _ 0 _ hszH.out hz0H.out (xH.out.drewN _)).mono ?_; rintro e w' ⟨rfl, rfl⟩; rw [show opAt (t1 ++ t2) ((0 : Nat) : Int) = (pk, pn) from hPH.out]))
              go_ret
              exact ⟨rfl, below_drewN (((Below.refl _ _).alloc (Nat.le_refl _) _).alloc (by simp) _) _⟩
        · obtain rfl : k1 = 6 := by simpa using c5
          have c6 : inB 6 30 68 = false := by decide
          cases c7 : k2 == 32
          · skip
            obtain rfl : R = false := by rw [hg.out]; simp [*]
            go_enter Tryd.func99, Tryd.ntmps99
            go_wp2_with fail
            go_quiet (fail)
            go_wp2_with (first | (go_at_call 68; refine (i_isWord _ _).mono ?_; rintro e w' ⟨rfl, rfl⟩) | (go_at_call 57; refine (i_isSignKind _ _).mono ?_; rintro e w' ⟨rfl, rfl⟩) | (go_at_call 15; refine (i_opAt _ 0 _ hszH.out hz0H.out (xH.out.drewN _)).mono ?_; rintro e w' ⟨rfl, rfl⟩; rw [show opAt (t1 ++ t2) ((0 : Nat) : Int) = (pk, pn) from hPH.out]))
            go_ret
            exact ⟨rfl, below_drewN (((Below.refl _ _).alloc (Nat.le_refl _) _).alloc (by simp) _) _⟩
          · skip
            obtain rfl : R = true := by rw [hg.out]; simp [*]
            go_enter Tryd.func99, Tryd.ntmps99
            go_wp2_with fail
            go_quiet (fail)
            go_wp2_with (go_at_call 68; refine (i_isWord _ _).mono ?_; rintro e w' ⟨rfl, rfl⟩)
            go_ret
            exact ⟨rfl, below_drewN (((Below.refl _ _).alloc (Nat.le_refl _) _).alloc (by simp) _) _⟩
      · obtain rfl : k1 = 3 := by simpa using c4
        have c6 : inB 3 30 68 = false := by decide
        obtain rfl : R = true := by rw [hg.out]; simp [*]
        go_enter Tryd.func99, Tryd.ntmps99
        go_wp2_with fail
        go_quiet (fail)
        go_wp2_with (go_at_call 68; refine (i_isWord _ _).mono ?_; rintro e w' ⟨rfl, rfl⟩)
        go_ret
        exact ⟨rfl, below_drewN (((Below.refl _ _).alloc (Nat.le_refl _) _).alloc (by simp) _) _⟩
  · cases hF : isWordB fb
    · skip
      cases c4 : k1 == 3
      · cases c5 : k1 == 6
        · cases c6 : inB k1 30 68
          · skip
            obtain rfl : R = false := by rw [hg.out]; simp [*]
            go_enter Tryd.func99, Tryd.ntmps99
            go_wp2_with fail
            go_quiet (fail)
            go_wp2_with (first | (go_at_call 68; refine (i_isWord _ _).mono ?_; rintro e w' ⟨rfl, rfl⟩) | (go_at_call 57; refine (i_isSignKind _ _).mono ?_; rintro e w' ⟨rfl, rfl⟩) | (go_at_call 15; refine (i_opAt _ 0 _ hszH.out hz0H.out (xH.out.drewN _)).mono ?_; rintro e w' ⟨rfl, rfl⟩; rw [show opAt (t1 ++ t2) ((0 : Nat) : Int) = (pk, pn) from hPH.out]))
            go_ret
            exact ⟨rfl, below_drewN (((Below.refl _ _).alloc (Nat.le_refl _) _).alloc (by simp) _) _⟩
          · by_cases hlt : t1.size < pn
            · have hld : decide (t1.size < pn) = true := decide_eq_true hlt
              obtain rfl : R = true := by rw [hg.out]; simp [*]
              go_enter Tryd.func99, Tryd.ntmps99
              go_wp2_with fail
              go_quiet (fail)
              go_wp2_with (first | (go_at_call 68; refine (i_isWord _ _).mono ?_; rintro e w' ⟨rfl, rfl⟩) | (go_at_call 57; refine (i_isSignKind _ _).mono ?_; rintro e w' ⟨rfl, rfl⟩) | (go_at_call 15; refine (i_opAt _ 0 _ hszH.out hz0H.out (xH.out.drewN _)).mono ?_; rintro e w' ⟨rfl, rfl⟩; rw [show opAt (t1 ++ t2) ((0 : Nat) : Int) = (pk, pn) from hPH.out]))
              go_ret
              exact ⟨rfl, below_drewN (((Below.refl _ _).alloc (Nat.le_refl _) _).alloc (by simp) _) _⟩
            · have hld : decide (t1.size < pn) = false := decide_eq_false hlt
              obtain rfl : R = false := by rw [hg.out]; simp [*]
              go_enter Tryd.func99, Tryd.ntmps99
              go_wp2_with fail
              go_quiet (fail)
              go_wp2_with (first | (go_at_call 68; refine (i_isWord _ _).mono ?_; rintro e w' ⟨rfl, rfl⟩) | (go_at_call 57; refine (i_isSignKind _ _).mono ?_; rintro e w' ⟨rfl, rfl⟩) | (go_at_call 15; refine (i_opAt _ 0 _ hszH.out hz0H.out (xH.out.drewN _)).mono ?_; rintro e w' ⟨rfl, rfl⟩; rw [show opAt (t1 ++ t2) ((0 : Nat) : Int) = (pk, pn) from hPH.out]))
              go_ret
              exact ⟨rfl, below_drewN (((Below.refl _ _).alloc (Nat.le_refl _) _).alloc (by simp) _) _⟩
        · obtain rfl : k1 = 6 := by simpa using c5
          have c6 : inB 6 30 68 = false := by decide
          cases c7 : k2 == 32
          · skip
            obtain rfl : R = false := by rw [hg.out]; simp [*]
            go_enter Tryd.func99, Tryd.ntmps99
            go_wp2_with fail
            go_quiet (fail)
            go_wp2_with (first | (go_at_call 68; refine (i_isWord _ _).mono ?_; rintro e w' ⟨rfl, rfl⟩) | (go_at_call 57; refine (i_isSignKind _ _).mono ?_; rintro e w' ⟨rfl, rfl⟩) | (go_at_call 15; refine (i_opAt _ 0 _ hszH.out hz0H.out (xH.out.drewN _)).mono ?_; rintro e w' ⟨rfl, rfl⟩; rw [show opAt (t1 ++ t2) ((0 : Nat) : Int) = (pk, pn) from hPH.out]))
            go_ret
            exact ⟨rfl, below_drewN (((Below.refl _ _).alloc (Nat.le_refl _) _).alloc (by simp) _) _⟩
          · skip
            obtain rfl : R = true := by rw [hg.out]; simp [*]
            go_enter Tryd.func99, Tryd.ntmps99
            go_wp2_with fail
            go_quiet (fail)
            go_wp2_with (go_at_call 68; refine (i_isWord _ _).mono ?_; rintro e w' ⟨rfl, rfl⟩)
            go_ret
            exact ⟨rfl, below_drewN (((Below.refl _ _).alloc (Nat.le_refl _) _).alloc (by simp) _) _⟩
      · obtain rfl : k1 = 3 := by simpa using c4
        have c6 : inB 3 30 68 = false := by decide
        cases c8 : fb == 46
        · skip
          obtain rfl : R = false := by rw [hg.out]; simp [*]
          go_enter Tryd.func99, Tryd.ntmps99
          go_wp2_with fail
          go_quiet (fail)
          go_wp2_with (first | (go_at_call 68; refine (i_isWord _ _).mono ?_; rintro e w' ⟨rfl, rfl⟩) | (go_at_call 57; refine (i_isSignKind _ _).mono ?_; rintro e w' ⟨rfl, rfl⟩) | (go_at_call 15; refine (i_opAt _ 0 _ hszH.out hz0H.out (xH.out.drewN _)).mono ?_; rintro e w' ⟨rfl, rfl⟩; rw [show opAt (t1 ++ t2) ((0 : Nat) : Int) = (pk, pn) from hPH.out]))
          go_ret
          exact ⟨rfl, below_drewN (((Below.refl _ _).alloc (Nat.le_refl _) _).alloc (by simp) _) _⟩
        · skip
          obtain rfl : R = true := by rw [hg.out]; simp [*]
          go_enter Tryd.func99, Tryd.ntmps99
          go_wp2_with fail
          go_quiet (fail)
          go_wp2_with (go_at_call 68; refine (i_isWord _ _).mono ?_; rintro e w' ⟨rfl, rfl⟩)
          go_ret
          exact ⟨rfl, below_drewN (((Below.refl _ _).alloc (Nat.le_refl _) _).alloc (by simp) _) _⟩
    · skip
      obtain rfl : R = true := by rw [hg.out]; simp [*]
      go_enter Tryd.func99, Tryd.ntmps99
      go_wp2_with fail
      go_quiet (fail)
      go_wp2_with (go_at_call 68; refine (i_isWord _ _).mono ?_; rintro e w' ⟨rfl, rfl⟩)
      go_ret
      exact ⟨rfl, below_drewN (((Below.refl _ _).alloc (Nat.le_refl _) _).alloc (by simp) _) _⟩
end Go.Proofs.YtdajhcammnlonaaDoor
