/- The number that a decimal text tells, both sides: ReadDec; the law on it (walks). -/
import Derived.Test.YtdajhcammnlonaaDoorDec
import Derived.Test.YtdajhcammnlonaaDoorReadDecPure
import Derived.Lib.AtoiErrMem
namespace Go.Proofs.YtdajhcammnlonaaDoor
open Go.RowKit
set_option linter.unusedVariables false
theorem ret2_ibx {a b : Int} {x y : Bool} (h : a = b) (h2 : x = y) : Ending.returned (.tuple #[.int .i64 a, .bool x]) = .returned (.tuple #[.int .i64 b, .bool y]) := by rw [h, h2]
theorem dec_cmp (n : Int) (s : ByteArray) : ((decB n).toList == s.toList) = (Lib.itoa n == s.data.toList) := by
  rw [ByteArray.toList_eq, ByteArray.toList_eq]
  unfold decB
  simp
def RetRead (w : World) (s : ByteArray) (e : Ending) (w' : World) : Prop := e = .returned (.tuple #[.int .i64 (readDec s.data.toList).1, .bool (readDec s.data.toList).2]) ∧ Below w.heap.size w w'
theorem RetRead.no {w wx : World} {s : ByteArray} (h : readDec s.data.toList = (0, false)) (hb : Below w.heap.size w wx) : RetRead w s (.returned (.tuple #[.int .i64 0, .bool false])) wx := by
  unfold RetRead
  rw [h]
  exact ⟨rfl, hb⟩
theorem RetRead.yes {w wx : World} {s : ByteArray} {n : Int} (h : readDec s.data.toList = (n, true)) (hb : Below w.heap.size w wx) : RetRead w s (.returned (.tuple #[.int .i64 n, .bool true])) wx := by
  unfold RetRead
  rw [h]
  exact ⟨rfl, hb⟩
theorem read_long {l : List UInt8} (h : ¬ (digScan (l.take 11)).2 ≤ 9 ∨ ¬ l.length ≤ 10) : readDec l = (0, false) := by
  unfold readDec readDecOk
  rw [if_neg]
  simp only [Bool.and_eq_true, decide_eq_true_eq]
  rintro ⟨⟨h1, h2⟩, _⟩
  rcases h with h | h
  · exact h h1
  · exact h h2
theorem read_cmp {l : List UInt8} {n : Int} (hn : numOf l = n) (h1 : (digScan (l.take 11)).2 ≤ 9) (h2 : l.length ≤ 10) : readDec l = if (Lib.itoa n == l) = true then (n, true) else (0, false) := by
  unfold readDec readDecOk
  rw [hn, decide_eq_true h1, decide_eq_true h2]
  rfl
theorem digScan_take {l : List UInt8} {j : Nat} {c : UInt8} (h : l[j]? = some c) : digScan (l.take (j + 1)) = digStep (digScan (l.take j)) c := by
  rw [List.take_add_one, h]
  exact digScan_snoc _ _
theorem take_eleven {l : List UInt8} {j : Nat} (h : j = l.length ∨ j = 11) (hj : j ≤ l.length) (h11 : j ≤ 11) : l.take j = l.take 11 := by
  rcases h with rfl | rfl
  · rw [List.take_of_length_le (Nat.le_refl _), List.take_of_length_le h11]
  · rfl
set_option maxRecDepth 100000 in
set_option maxHeartbeats 4000000 in
theorem s_readDec (s : ByteArray) (w : World) (hs : s.size ≤ 16777216) : Calls Tryd.prog 31 #[.string s] w (RetRead w s) := by
  have hsl : s.size = s.data.toList.length := by simp
  have hslH := Lib.hid hsl
  clear hsl
  go_enter Tryd.func31, Tryd.ntmps31
  go_wp2_with fail
  go_loop [4, 5, 6] (fun x y i => ∃ (n k j : Nat), j ≤ s.size ∧ j ≤ 11 ∧ k ≤ j ∧ n < 1000000000000 ∧ Hid (digScan (s.data.toList.take j) = (n, k)) ∧ x = .int .i64 n ∧ y = .int .i64 k ∧ i = .int .i64 j) (fun _ _ i => (11 - (intOf i).toNat))
  case atStart => exact ⟨0, 0, 0, by omega, by omega, by omega, by omega, rfl, by go_num, by go_num, by go_num⟩
  case round =>
    obtain ⟨n, k, j, hj, hj11, hk, hn, hd, rfl, rfl, rfl⟩ := hrel
    by_cases hlt : j < s.size ∧ j < 11
    · obtain ⟨h1, h2⟩ := hlt
      obtain ⟨cb, hcb⟩ : ∃ cb : Int, ((s[j]).toNat : Int) = cb := ⟨_, rfl⟩
      have hcr : 0 ≤ cb ∧ cb < 256 := by have := (s[j]).toNat_lt; omega
      have hx : s.data.toList[j]? = some s[j] := by
        rw [List.getElem?_eq_getElem (by rw [← hslH.out]; exact h1)]
        rfl
      have hstep := digScan_take hx
      rw [hd.out] at hstep
      have hbd := digScan_le (s.data.toList.take j)
      rw [hd.out] at hbd
      have hn10 : n < 10000000000 := by
        have h3 : (10 : Nat) ^ k ≤ 10 ^ 10 := Nat.pow_le_pow_right (by omega) (by omega)
        have h4 : n < 10 ^ k := hbd.1
        omega
      have hstepH := Lib.hid hstep
      clear hstep hbd hx hn
      by_cases hdg : 48 ≤ cb ∧ cb ≤ 57
      · obtain ⟨g1, g2⟩ := hdg
        have hst : Hid (digScan (s.data.toList.take (j + 1)) = (n * 10 + (cb - 48).toNat, k + 1)) := by
          show _ = _
          rw [hstepH.out, digStep, if_pos (by omega)]
          simp only [Prod.mk.injEq, and_true]
          omega
        have hcbH := Lib.hid hcb
        go_wp2_with fail
        go_round
        case rel => exact ⟨n * 10 + (cb - 48).toNat, k + 1, j + 1, by omega, by omega, by omega, by omega, hst, by go_num, by go_num, by go_num⟩
        case measure => simp [intOf]; omega
      · have hst : Hid (digScan (s.data.toList.take (j + 1)) = (n, k)) := by
          show _ = _
          rw [hstepH.out, digStep, if_neg (by omega)]
        by_cases hlo : 48 ≤ cb
        all_goals
          go_wp2_with fail
          go_round
          case rel => exact ⟨n, k, j + 1, by omega, by omega, by omega, by omega, hst, by go_num, by go_num, by go_num⟩
          case measure => simp [intOf]; omega
    · have hjl : j = s.size ∨ j = 11 := by omega
      have hd11 : digScan (s.data.toList.take 11) = (n, k) := by
        rw [← take_eleven (l := s.data.toList) (j := j) (by rw [← hslH.out]; exact hjl) (by rw [← hslH.out]; exact hj) hj11]
        exact hd.out
      have hd11 := Lib.hid hd11
      have hsz9 : Hid (¬ k ≤ 9 ∨ 10 < s.size → readDec s.data.toList = (0, false)) := by
        intro h
        refine read_long ?_
        rw [hd11.out, ← hslH.out]
        rcases h with h | h
        · exact Or.inl h
        · exact Or.inr (by omega)
      have hgo : Hid (∀ N : Int, numOf s.data.toList = N → k ≤ 9 → s.size ≤ 10 → readDec s.data.toList = if (Lib.itoa N == s.data.toList) = true then (N, true) else (0, false)) := by
        intro N hN h1 h2
        exact read_cmp hN (by rw [hd11.out]; exact h1) (by rw [← hslH.out]; exact h2)
      have hneg : Hid (s.data.toList.head? = some 45 → numOf s.data.toList = -(n : Int)) := by
        intro h
        unfold numOf
        rw [if_pos h, hd11.out]
      have hpos : Hid (¬ s.data.toList.head? = some 45 → numOf s.data.toList = (n : Int)) := by
        intro h
        unfold numOf
        rw [if_neg h, hd11.out]
      clear hd
      by_cases c1 : j < s.size
      · have c2 : ¬ j < 11 := by omega
        have h0 : 0 < s.size := by omega
        obtain ⟨hb, hhb⟩ : ∃ hb : Int, ((s[0]'h0).toNat : Int) = hb := ⟨_, rfl⟩
        have hbr : 0 ≤ hb ∧ hb < 256 := by have := (s[0]'h0).toNat_lt; omega
        have hhd : s.data.toList.head? = some (s[0]'h0) := by
          rw [List.head?_eq_getElem?, List.getElem?_eq_getElem (by rw [← hslH.out]; exact h0)]
          rfl
        have hhdH := Lib.hid hhd
        clear hhd
        by_cases hm : hb = 45
        · have hN := hneg.out (by rw [hhdH.out]; congr 1; exact UInt8.toNat_inj.1 (by show (s[0]'h0).toNat = 45; omega))
          subst hm
          by_cases k9 : k ≤ 9
          · by_cases s10 : s.size ≤ 10
            · exfalso
              omega
            · have hrd := Lib.hid (hsz9.out (Or.inr (by omega)))
              clear hN
              go_wp2_with fail
              go_ret2
              exact RetRead.no hrd.out (Below.refl _ _)
          · have hrd := Lib.hid (hsz9.out (Or.inl k9))
            clear hN
            go_wp2_with fail
            go_ret2
            exact RetRead.no hrd.out (Below.refl _ _)
        · have hN := hpos.out (by rw [hhdH.out]; intro q; have q2 := Option.some.inj q; rw [q2] at hhb; exact hm hhb.symm)
          have hmb : (hb == 45) = false := by simpa using hm
          clear hm
          by_cases k9 : k ≤ 9
          · by_cases s10 : s.size ≤ 10
            · exfalso
              omega
            · have hrd := Lib.hid (hsz9.out (Or.inr (by omega)))
              clear hN
              go_wp2_with fail
              go_ret2
              exact RetRead.no hrd.out (Below.refl _ _)
          · have hrd := Lib.hid (hsz9.out (Or.inl k9))
            clear hN
            go_wp2_with fail
            go_ret2
            exact RetRead.no hrd.out (Below.refl _ _)
      · by_cases h0 : 0 < s.size
        · skip
          obtain ⟨hb, hhb⟩ : ∃ hb : Int, ((s[0]'h0).toNat : Int) = hb := ⟨_, rfl⟩
          have hbr : 0 ≤ hb ∧ hb < 256 := by have := (s[0]'h0).toNat_lt; omega
          have hhd : s.data.toList.head? = some (s[0]'h0) := by
            rw [List.head?_eq_getElem?, List.getElem?_eq_getElem (by rw [← hslH.out]; exact h0)]
            rfl
          have hhdH := Lib.hid hhd
          clear hhd
          by_cases hm : hb = 45
          · have hN := hneg.out (by rw [hhdH.out]; congr 1; exact UInt8.toNat_inj.1 (by show (s[0]'h0).toNat = 45; omega))
            subst hm
            by_cases k9 : k ≤ 9
            · by_cases s10 : s.size ≤ 10
              · have hrd := hgo.out _ hN k9 s10
                have hNb : -9223372036854775808 ≤ (-(n : Int)) ∧ (-(n : Int)) ≤ 9223372036854775807 := by omega
                obtain ⟨D, hD⟩ : ∃ D, decB (-(n : Int)) = D := ⟨_, rfl⟩
                have hc := dec_cmp (-(n : Int)) s
                rw [hD] at hc
                obtain ⟨B, hB⟩ : ∃ B, (Lib.itoa (-(n : Int)) == s.data.toList) = B := ⟨_, rfl⟩
                rw [hB] at hrd hc
                have hDH := Lib.hid hD
                have hrdH := Lib.hid hrd
                have hNH := Lib.hid hN
                clear hB hD hrd hN
                cases B
                · go_wp2_with fail
                  refine (s_dec _ _ hNb.1 hNb.2).mono ?_
                  rintro e w1 ⟨rfl, hb1⟩
                  rw [hDH.out]
                  have hb1 := Lib.hid hb1
                  go_wp2_with fail
                  go_ret2
                  exact RetRead.no hrdH.out hb1.out
                · go_wp2_with fail
                  refine (s_dec _ _ hNb.1 hNb.2).mono ?_
                  rintro e w1 ⟨rfl, hb1⟩
                  rw [hDH.out]
                  have hb1 := Lib.hid hb1
                  go_wp2_with fail
                  go_ret2
                  exact RetRead.yes hrdH.out hb1.out
              · have hrd := Lib.hid (hsz9.out (Or.inr (by omega)))
                clear hN
                go_wp2_with fail
                go_ret2
                exact RetRead.no hrd.out (Below.refl _ _)
            · have hrd := Lib.hid (hsz9.out (Or.inl k9))
              clear hN
              go_wp2_with fail
              go_ret2
              exact RetRead.no hrd.out (Below.refl _ _)
          · have hN := hpos.out (by rw [hhdH.out]; intro q; have q2 := Option.some.inj q; rw [q2] at hhb; exact hm hhb.symm)
            have hmb : (hb == 45) = false := by simpa using hm
            clear hm
            by_cases k9 : k ≤ 9
            · by_cases s10 : s.size ≤ 10
              · have hrd := hgo.out _ hN k9 s10
                have hNb : -9223372036854775808 ≤ ((n : Int)) ∧ ((n : Int)) ≤ 9223372036854775807 := by omega
                obtain ⟨D, hD⟩ : ∃ D, decB ((n : Int)) = D := ⟨_, rfl⟩
                have hc := dec_cmp ((n : Int)) s
                rw [hD] at hc
                obtain ⟨B, hB⟩ : ∃ B, (Lib.itoa ((n : Int)) == s.data.toList) = B := ⟨_, rfl⟩
                rw [hB] at hrd hc
                have hDH := Lib.hid hD
                have hrdH := Lib.hid hrd
                have hNH := Lib.hid hN
                clear hB hD hrd hN
                cases B
                · go_wp2_with fail
                  refine (s_dec _ _ hNb.1 hNb.2).mono ?_
                  rintro e w1 ⟨rfl, hb1⟩
                  rw [hDH.out]
                  have hb1 := Lib.hid hb1
                  go_wp2_with fail
                  go_ret2
                  exact RetRead.no hrdH.out hb1.out
                · go_wp2_with fail
                  refine (s_dec _ _ hNb.1 hNb.2).mono ?_
                  rintro e w1 ⟨rfl, hb1⟩
                  rw [hDH.out]
                  have hb1 := Lib.hid hb1
                  go_wp2_with fail
                  go_ret2
                  exact RetRead.yes hrdH.out hb1.out
              · have hrd := Lib.hid (hsz9.out (Or.inr (by omega)))
                clear hN
                go_wp2_with fail
                go_ret2
                exact RetRead.no hrd.out (Below.refl _ _)
            · have hrd := Lib.hid (hsz9.out (Or.inl k9))
              clear hN
              go_wp2_with fail
              go_ret2
              exact RetRead.no hrd.out (Below.refl _ _)
        · have hN := hpos.out (by
            rw [List.head?_eq_getElem?, List.getElem?_eq_none (by rw [← hslH.out]; omega)]
            intro q; cases q)
          by_cases k9 : k ≤ 9
          · by_cases s10 : s.size ≤ 10
            · have hrd := hgo.out _ hN k9 s10
              have hNb : -9223372036854775808 ≤ ((n : Int)) ∧ ((n : Int)) ≤ 9223372036854775807 := by omega
              obtain ⟨D, hD⟩ : ∃ D, decB ((n : Int)) = D := ⟨_, rfl⟩
              have hc := dec_cmp ((n : Int)) s
              rw [hD] at hc
              obtain ⟨B, hB⟩ : ∃ B, (Lib.itoa ((n : Int)) == s.data.toList) = B := ⟨_, rfl⟩
              rw [hB] at hrd hc
              have hDH := Lib.hid hD
              have hrdH := Lib.hid hrd
              have hNH := Lib.hid hN
              clear hB hD hrd hN
              cases B
              · go_wp2_with fail
                refine (s_dec _ _ hNb.1 hNb.2).mono ?_
                rintro e w1 ⟨rfl, hb1⟩
                rw [hDH.out]
                have hb1 := Lib.hid hb1
                go_wp2_with fail
                go_ret2
                exact RetRead.no hrdH.out hb1.out
              · go_wp2_with fail
                refine (s_dec _ _ hNb.1 hNb.2).mono ?_
                rintro e w1 ⟨rfl, hb1⟩
                rw [hDH.out]
                have hb1 := Lib.hid hb1
                go_wp2_with fail
                go_ret2
                exact RetRead.yes hrdH.out hb1.out
            · exfalso
              omega
          · exfalso
            omega
end Go.Proofs.YtdajhcammnlonaaDoor
