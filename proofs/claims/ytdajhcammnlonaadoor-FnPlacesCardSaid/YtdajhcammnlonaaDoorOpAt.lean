/- The longest sign at a place of a text: OpAt (walks). -/
import Derived.Test.YtdajhcammnlonaaDoorTabsI
import Derived.Test.YtdajhcammnlonaaDoorPlacesPure
import Derived.Deep.QuietTactic
import Derived.BigQuiet
namespace Go.Proofs.YtdajhcammnlonaaDoor
open Go.RowKit
set_option linter.unusedVariables false

theorem cut_list (s : ByteArray) (a b : Nat) : (s.extract a b).data.toList = (s.data.toList.drop a).take (b - a) := by
  simp [List.take_drop, Array.toList_extract]
theorem cut_pref {s X : ByteArray} {k : Nat} (h : k + X.size ≤ s.size) : ((s.extract k (k + X.size)).toList == X.toList) = decide (X.data.toList <+: s.data.toList.drop k) := by
  rw [ByteArray.toList_eq, ByteArray.toList_eq, cut_list, Bool.eq_iff_iff, beq_iff_eq, decide_eq_true_iff, List.prefix_iff_eq_take]
  have e : X.data.toList.length = X.size := by rw [Array.length_toList, ByteArray.size_data]
  rw [e, Nat.add_sub_cancel_left]
  exact ⟨fun h => h.symm, fun h => h.symm⟩
theorem pref_long {s X : ByteArray} {k : Nat} (h : ¬ k + X.size ≤ s.size) (hk : k ≤ s.size) : decide (X.data.toList <+: s.data.toList.drop k) = false := by
  rw [decide_eq_false_iff_not]
  intro c
  have h1 := c.length_le
  have e : X.data.toList.length = X.size := by rw [Array.length_toList, ByteArray.size_data]
  have e2 : s.data.toList.length = s.size := by rw [Array.length_toList, ByteArray.size_data]
  rw [List.length_drop, e, e2] at h1
  omega
theorem opGo_drop {t : List UInt8} {l : List (List UInt8)} {j : Nat} {x : List UInt8} {a : Int × Nat} (h : l[j]? = some x) : opGo t (l.drop j) j a = opGo t (l.drop (j + 1)) (j + 1) (if x.length > a.2 ∧ x <+: t then ((30 + j : Nat), x.length) else a) := by
  have hj := (List.getElem?_eq_some_iff.1 h).1
  have e : l.drop j = x :: l.drop (j + 1) := by rw [List.drop_eq_getElem_cons hj, (List.getElem?_eq_some_iff.1 h).2]
  rw [e, opGo]
theorem opGo_fin {t : List UInt8} {l : List (List UInt8)} {j : Nat} {a : Int × Nat} (h : l.length ≤ j) : opGo t (l.drop j) j a = a := by rw [List.drop_eq_nil_of_le h, opGo]
theorem sign_len {j : Nat} {x : List UInt8} (h : signL[j]? = some x) : 1 ≤ x.length ∧ x.length ≤ 2 := by
  have : ∀ y ∈ signL, 1 ≤ y.length ∧ y.length ≤ 2 := by decide
  exact this x (List.mem_of_getElem? h)
theorem bs_list (x : List UInt8) : (bs x).data.toList = x := by simp [bs]
set_option maxRecDepth 100000 in
set_option maxHeartbeats 2000000 in
theorem s_opAt (s : ByteArray) (k : Nat) (w : World) (hs : s.size ≤ 16777216) (hk : k < s.size) : Calls Tryd.prog 128 #[.string s, .int .i64 (k : Int)] w fun e w' => e = .returned (.tuple #[.int .i64 (opAt s k).1, .int .i64 (opAt s k).2]) ∧ Below w.heap.size w w' := by
  obtain ⟨T, hT⟩ : ∃ T, s.data.toList.drop k = T := ⟨_, rfl⟩
  have hop : opAt s k = opGo T signL 0 (0, 0) := by rw [opAt, if_pos (by omega)]; rw [← hT]; rfl
  rw [hop]
  obtain ⟨R, hR⟩ : ∃ R, opGo T signL 0 (0, 0) = R := ⟨_, rfl⟩
  rw [hR]
  have hRH := Lib.hid hR.symm
  have hTH := Lib.hid hT
  clear hT hop hR
  go_enter Tryd.func128, Tryd.ntmps128
  go_wp2_with fail
  refine (s_signs _).mono ?_
  rintro e w1 ⟨rfl, ht, hb⟩
  have htH := Lib.hid ht
  have h39 : signL.length = 39 := rfl
  rw [h39]
  have h39 := Lib.hid h39
  clear ht
  go_wp2_with fail
  go_loopw [6, 7, 9] (fun x y i wr => ∃ (j L : Nat) (K : Int), j ≤ 39 ∧ L ≤ 2 ∧ Hid (R = opGo T (signL.drop j) j (K, L)) ∧ x = .int .i64 K ∧ y = .int .i64 L ∧ i = .int .i64 j ∧ Below w1.heap.size w1 wr) (fun _ _ i _ => (39 - (intOf i).toNat))
  case atStart => exact ⟨0, 0, 0, by omega, by omega, hRH.out, rfl, rfl, by go_num, Below.refl _ _⟩
  case round =>
    obtain ⟨j, L, K, hj, hL, hd, rfl, rfl, rfl, hbr⟩ := hrel
    by_cases hlt : j < 39
    · obtain ⟨x, hx⟩ : ∃ x, signL[j]? = some x := ⟨_, List.getElem?_eq_getElem hlt⟩
      have c0 := (htH.out.later hbr).2 j x hx
      have hsl := sign_len hx
      have hst := Lib.hid (opGo_drop (t := T) (a := (K, L)) hx)
      obtain ⟨X, hX⟩ : ∃ X, bs x = X := ⟨_, rfl⟩
      have hXl : x = X.data.toList := by rw [← hX, bs_list]
      have hXs : x.length = X.size := by rw [← hX, bs_size]
      rw [hX] at c0
      rw [hXs] at hsl
      have hXlH := Lib.hid hXl
      have hXsH := Lib.hid hXs
      clear hx hX hXl hXs
      have gw1 : IntKind.i64.wrap ((s.size : Int) - (k : Int)) = (s.size : Int) - (k : Int) := IntWalk.i64_in _ (by omega)
      have gw2 : IntKind.i64.wrap ((k : Int) + (X.size : Int)) = (k : Int) + (X.size : Int) := IntWalk.i64_in _ (by omega)
      have g1 : decide (k ≤ s.size) = true := decide_eq_true (Nat.le_of_lt hk)
      by_cases hfit : k + X.size ≤ s.size
      · have g2 : decide ((X.size : Int) ≤ (s.size : Int) - (k : Int)) = true := decide_eq_true (by omega)
        have gj : (k : Int) + (X.size : Int) ≤ (s.size : Int) := by omega
        have gj0 : (0 : Int) ≤ (k : Int) + (X.size : Int) := by omega
        have gj1 : (k : Int) ≤ (k : Int) + (X.size : Int) := by omega
        have gjt : ((k : Int) + (X.size : Int)).toNat = k + X.size := by omega
        have hp := cut_pref hfit
        rw [hTH.out] at hp
        have hpH := Lib.hid hp
        clear hp
        cases hE : (s.extract k (k + X.size)).toList == X.toList
        · have hst2 : Hid (R = opGo T (signL.drop (j + 1)) (j + 1) (K, L)) := by
            show _ = _
            have h1 := hpH.out
            rw [hE] at h1
            rw [hd.out, hst.out, if_neg (fun c => of_decide_eq_false h1.symm (hXlH.out ▸ c.2))]
          go_wp2_with fail
          go_quiet (fail)
          go_wp2_with fail
          go_roundw
          case rel => exact ⟨j + 1, L, K, by omega, hL, hst2, rfl, rfl, by go_num, below_drewN hbr _⟩
          case measure => simp [intOf]; omega
        · by_cases hgt : L < X.size
          · have g3 : decide (L < X.size) = true := decide_eq_true hgt
            have hst2 : Hid (R = opGo T (signL.drop (j + 1)) (j + 1) (((30 + j : Nat) : Int), X.size)) := by
              show _ = _
              have h1 := hpH.out
              rw [hE] at h1
              rw [hd.out, hst.out, if_pos ⟨by rw [hXsH.out]; exact hgt, hXlH.out ▸ of_decide_eq_true h1.symm⟩, hXsH.out]
            go_wp2_with fail
            go_quiet (fail)
            go_wp2_with fail
            go_roundw
            case rel => exact ⟨j + 1, X.size, _, by omega, hsl.2, hst2, by go_num, rfl, by go_num, below_drewN hbr _⟩
            case measure => simp [intOf]; omega
          · have g3 : decide (L < X.size) = false := decide_eq_false hgt
            have hst2 : Hid (R = opGo T (signL.drop (j + 1)) (j + 1) (K, L)) := by
              show _ = _
              rw [hd.out, hst.out, if_neg (fun c => hgt (by have := c.1; rw [hXsH.out] at this; exact this))]
            go_wp2_with fail
            go_quiet (fail)
            go_wp2_with fail
            go_roundw
            case rel => exact ⟨j + 1, L, K, by omega, hL, hst2, rfl, rfl, by go_num, below_drewN hbr _⟩
            case measure => simp [intOf]; omega
      · have hst2 : Hid (R = opGo T (signL.drop (j + 1)) (j + 1) (K, L)) := by
          show _ = _
          have h1 := pref_long hfit (Nat.le_of_lt hk)
          rw [hTH.out] at h1
          rw [hd.out, hst.out, if_neg (fun c => of_decide_eq_false h1 (hXlH.out ▸ c.2))]
        have g2 : decide ((X.size : Int) ≤ (s.size : Int) - (k : Int)) = false := decide_eq_false (by omega)
        go_wp2_with fail
        go_quiet (fail)
        go_wp2_with fail
        go_roundw
        case rel => exact ⟨j + 1, L, K, by omega, hL, hst2, rfl, rfl, by go_num, below_drewN hbr _⟩
        case measure => simp [intOf]; omega
    · obtain rfl : j = 39 := by omega
      have hRe : R = (K, L) := by rw [hd.out, opGo_fin (by rw [h39.out]; exact Nat.le_refl _)]
      subst hRe
      go_wp2_with fail
      go_ret2
      exact ⟨rfl, hb.trans (hbr.mono hb.size)⟩
end Go.Proofs.YtdajhcammnlonaaDoor
