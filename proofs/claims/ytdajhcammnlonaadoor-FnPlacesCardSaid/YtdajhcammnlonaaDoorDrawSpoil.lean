/- A text with a byte turned, dropped or added, told exactly (walk). -/
import Derived.Test.YtdajhcammnlonaaDoorDrawNum
import Derived.Deep.RegionLaw
namespace Go.Proofs.YtdajhcammnlonaaDoor
open Go.RowKit
set_option linter.unusedVariables false
def spoilX (cs : List UInt8) (t : ByteArray) (s : Nat × Int) : ByteArray × (Nat × Int) :=
  if t.size = 0 then (⟨(textX cs 3 s).1.toArray⟩, (textX cs 3 s).2) else
  let k := (belowD cs (t.size : Int) s).toNat
  let s1 := belowS cs (t.size : Int) s
  let s2 := belowS cs 4 s1
  if belowD cs 4 s1 = 0 then (t.extract 0 k ++ t.extract (k + 1) t.size, s2)
  else if belowD cs 4 s1 = 1 then (t.extract 0 k ++ strOfNums [byteD cs s2] ++ t.extract k t.size, stepD cs s2)
  else if belowD cs 4 s1 = 2 then (t.extract 0 k, s2)
  else (t.extract 0 k ++ strOfNums [IntKind.u8.wrap (bits .xor .i64 (bAt t k) (1 + belowD cs 255 s2))] ++ t.extract (k + 1) t.size, belowS cs 255 s2)
set_option maxRecDepth 100000 in
set_option maxHeartbeats 1000000 in
theorem x_spoil (g : Nat) (cs : List UInt8) (t : ByteArray) (s : Nat × Int) (w : World) (ht : t.size ≤ 100000) (hc : Cur w g cs s) : Calls Tryd.prog 97 #[.pointer (some ⟨g, 0, none⟩), .string t] w (RetD w g cs (spoilX cs t s).2 (.string (spoilX cs t s).1)) := by
  have hlt := hc.lt
  have hcH := Lib.hid hc
  clear hc
  have kc := conv_one
  have ksz : ∀ z, (strOfNums [z]).size = 1 := fun z => strOfNums_size _
  by_cases h0 : t.size = 0
  · have hR := Lib.hid (show spoilX cs t s = (⟨(textX cs 3 s).1.toArray⟩, (textX cs 3 s).2) by rw [spoilX, if_pos h0])
    go_enter Tryd.func97, Tryd.ntmps97
    go_wp2_with fail
    refine (x_text _ _ _ 3 _ (by omega) hcH.out).mono ?_
    rintro e w1 ⟨rfl, hc1, ha1⟩
    have hc1 := Lib.hid hc1
    have ha1 := Lib.hid ha1
    go_wp2_with fail
    go_ret
    exact ⟨by rw [hR.out]; rfl, by rw [hR.out]; exact hc1.out, ha1.out⟩
  · have hk := belowD_lt cs (show (0 : Int) < (t.size : Int) by omega) s
    obtain ⟨k, hkk⟩ : ∃ k : Nat, belowD cs (t.size : Int) s = (k : Int) := Int.eq_ofNat_of_zero_le hk.1
    have hkt : k < t.size := by omega
    obtain ⟨s1, hs1⟩ : ∃ s1, belowS cs (t.size : Int) s = s1 := ⟨_, rfl⟩
    obtain ⟨s2, hs2⟩ : ∃ s2, belowS cs 4 s1 = s2 := ⟨_, rfl⟩
    have hy := belowD_lt cs (show (0 : Int) < 4 by omega) s1
    obtain ⟨y, hyy⟩ : ∃ y, belowD cs 4 s1 = y := ⟨_, rfl⟩
    have hR : Hid (spoilX cs t s = if y = 0 then (t.extract 0 k ++ t.extract (k + 1) t.size, s2)
      else if y = 1 then (t.extract 0 k ++ strOfNums [byteD cs s2] ++ t.extract k t.size, stepD cs s2)
      else if y = 2 then (t.extract 0 k, s2)
      else (t.extract 0 k ++ strOfNums [IntKind.u8.wrap (bits .xor .i64 (bAt t k) (1 + belowD cs 255 s2))] ++ t.extract (k + 1) t.size, belowS cs 255 s2)) := by
      show _ = _
      rw [spoilX, if_neg h0]
      simp only [hkk, hs1, hs2, hyy, Int.toNat_natCast]
    rw [hyy] at hy
    have hkk := Lib.hid hkk
    have hs1 := Lib.hid hs1
    have hs2 := Lib.hid hs2
    have hyy := Lib.hid hyy
    clear hk
    have hk1 : ((k + 1 : Nat) : Int) ≤ (t.size : Int) := by omega
    have hkb : k + 1 ≤ t.size := by omega
    have hkc : (k : Int) ≤ (t.size : Int) := by omega
    have hkd : k ≤ t.size := by omega
    have hw1 : IntKind.i64.wrap ((k : Int) + 1) = (k : Int) + 1 := IntWalk.i64_in _ (by omega)
    have hw2 : ((k : Int) + 1).toNat = k + 1 := by omega
    have hw3 : 0 ≤ (k : Int) + 1 := by omega
    have hw4 : (k : Int) + 1 ≤ (t.size : Int) := by omega
    by_cases y0 : y = 0
    · subst y0
      have hR2 := Lib.hid (hR.out.trans (if_pos rfl))
      go_enter Tryd.func97, Tryd.ntmps97
      go_wp2_with fail
      refine (d_below _ _ _ _ _ (by omega) hcH.out).mono ?_
      rintro e w1 ⟨rfl, hc1, ha1⟩
      rw [hkk.out]
      rw [hs1.out] at hc1
      have hc1 := Lib.hid hc1
      have ha1 := Lib.hid ha1
      go_wp2_with fail
      refine (d_below _ _ _ _ _ (by omega) hc1.out).mono ?_
      rintro e w2 ⟨rfl, hc2, ha2⟩
      rw [hyy.out]
      rw [hs2.out] at hc2
      have hc2 := Lib.hid hc2
      have ha2 := Lib.hid (ha1.out.trans ha2)
      go_wp2_with fail
      go_quiet (fail)
      go_wp2_with fail
      go_ret
      exact ⟨by rw [hR2.out]; rfl, by rw [hR2.out]; exact hc2.out.drewN _, ha2.out.drewN _⟩
    by_cases y1 : y = 1
    · subst y1
      have hR2 := Lib.hid ((hR.out.trans (if_neg y0)).trans (if_pos rfl))
      have hz := byteD_lt cs s2
      obtain ⟨z, hzz⟩ : ∃ z, byteD cs s2 = z := ⟨_, rfl⟩
      rw [hzz] at hz hR2
      have hzz := Lib.hid hzz
      have hu : IntKind.u8.wrap z = z := IntWalk.u8_in _ (by omega)
      have hx1 : (9223372036854775807 < k + 1) = False := by rw [eq_iff_iff, iff_false]; omega
      have hx2 : (9223372036854775807 < k + 1 + (t.size - k)) = False := by rw [eq_iff_iff, iff_false]; omega
      clear y0
      go_enter Tryd.func97, Tryd.ntmps97
      go_wp2_with fail
      refine (d_below _ _ _ _ _ (by omega) hcH.out).mono ?_
      rintro e w1 ⟨rfl, hc1, ha1⟩
      rw [hkk.out]
      rw [hs1.out] at hc1
      have hc1 := Lib.hid hc1
      have ha1 := Lib.hid ha1
      go_wp2_with fail
      refine (d_below _ _ _ _ _ (by omega) hc1.out).mono ?_
      rintro e w2 ⟨rfl, hc2, ha2⟩
      rw [hyy.out]
      rw [hs2.out] at hc2
      have hc2 := Lib.hid hc2
      have ha2 := Lib.hid (ha1.out.trans ha2)
      go_wp2_with fail
      go_region_law (first | (go_simp; go_at_call 122; refine (d_byte _ _ _ _ (by first | exact hc2.out | exact hc2.out.drew | exact hc2.out.drewN _)).mono ?_; rintro e w3 ⟨rfl, hc3, ha3⟩; rw [hzz.out]))
      all_goals
        go_wp2_with fail
        go_ret
        exact ⟨by rw [hR2.out]; rfl, by rw [hR2.out]; exact hc3.alloc _, ((ha2.out.drew).trans ha3).alloc _⟩
    by_cases y2 : y = 2
    · subst y2
      have hR2 := Lib.hid (((hR.out.trans (if_neg y0)).trans (if_neg y1)).trans (if_pos rfl))
      clear y0 y1
      go_enter Tryd.func97, Tryd.ntmps97
      go_wp2_with fail
      refine (d_below _ _ _ _ _ (by omega) hcH.out).mono ?_
      rintro e w1 ⟨rfl, hc1, ha1⟩
      rw [hkk.out]
      rw [hs1.out] at hc1
      have hc1 := Lib.hid hc1
      have ha1 := Lib.hid ha1
      go_wp2_with fail
      refine (d_below _ _ _ _ _ (by omega) hc1.out).mono ?_
      rintro e w2 ⟨rfl, hc2, ha2⟩
      rw [hyy.out]
      rw [hs2.out] at hc2
      have hc2 := Lib.hid hc2
      have ha2 := Lib.hid (ha1.out.trans ha2)
      go_wp2_with fail
      go_ret
      exact ⟨by rw [hR2.out]; rfl, by rw [hR2.out]; exact hc2.out, ha2.out⟩
    · have hR2 := Lib.hid (((hR.out.trans (if_neg y0)).trans (if_neg y1)).trans (if_neg y2))
      have hb1 := belowD_lt cs (show (0 : Int) < 255 by omega) s2
      obtain ⟨q, hq⟩ : ∃ q, belowD cs 255 s2 = q := ⟨_, rfl⟩
      rw [hq, bAt_nat hkt] at hR2
      rw [hq] at hb1
      have hqH := Lib.hid hq
      have hcr : ((t[k]).toNat : Int) < 256 := by have := (t[k]).toNat_lt; omega
      obtain ⟨cb, hcb⟩ : ∃ cb : Int, ((t[k]).toNat : Int) = cb := ⟨_, rfl⟩
      have hc0 : 0 ≤ cb := by omega
      rw [hcb] at hcr hR2
      have e0 : (y == 0) = false := by simpa using y0
      have e1 : (y == 1) = false := by simpa using y1
      have e2 : (y == 2) = false := by simpa using y2
      have hw5 : IntKind.i64.wrap (1 + q) = 1 + q := IntWalk.i64_in _ (by omega)
      have hw6 : IntKind.i64.wrap cb = cb := IntWalk.i64_in _ (by omega)
      have hx1 : (9223372036854775807 < k + 1) = False := by rw [eq_iff_iff, iff_false]; omega
      have hx2 : (9223372036854775807 < k + 1 + (t.size - (k + 1))) = False := by rw [eq_iff_iff, iff_false]; omega
      have hx3 : k + 1 + (t.size - (k + 1)) = t.size := by omega
      have hx4 : (9223372036854775807 < t.size) = False := by rw [eq_iff_iff, iff_false]; omega
      clear y0 y1 y2
      go_enter Tryd.func97, Tryd.ntmps97
      go_wp2_with fail
      refine (d_below _ _ _ _ _ (by omega) hcH.out).mono ?_
      rintro e w1 ⟨rfl, hc1, ha1⟩
      rw [hkk.out]
      rw [hs1.out] at hc1
      have hc1 := Lib.hid hc1
      have ha1 := Lib.hid ha1
      go_wp2_with fail
      refine (d_below _ _ _ _ _ (by omega) hc1.out).mono ?_
      rintro e w2 ⟨rfl, hc2, ha2⟩
      rw [hyy.out]
      rw [hs2.out] at hc2
      have hc2 := Lib.hid hc2
      have ha2 := Lib.hid (ha1.out.trans ha2)
      go_wp2_with fail
      go_region_law (first | (go_simp; go_at_call 111; refine (d_below _ _ _ _ _ (by omega) (by first | exact hc2.out | exact hc2.out.drew | exact hc2.out.drewN _)).mono ?_; rintro e w3 ⟨rfl, hc3, ha3⟩; rw [hqH.out]))
      all_goals
        go_wp2_with fail
        go_ret
        exact ⟨by rw [hR2.out]; rfl, by rw [hR2.out]; exact hc3.alloc _, ((ha2.out.drew).trans ha3).alloc _⟩
theorem strOf_one (z : Int) : (strOfNums [z]).size = 1 := strOfNums_size _
theorem spoilX_size (cs : List UInt8) (t : ByteArray) (s : Nat × Int) : (spoilX cs t s).1.size ≤ t.size + 3 := by
  unfold spoilX
  by_cases h0 : t.size = 0
  · rw [if_pos h0]
    have := textX_len cs 3 s
    show (textX cs 3 s).1.toArray.size ≤ _
    simp
    omega
  · rw [if_neg h0]
    have hk := belowD_lt cs (show (0 : Int) < (t.size : Int) by omega) s
    dsimp only
    split
    · simp only [ByteArray.size_append, ByteArray.size_extract]; omega
    · split
      · simp only [ByteArray.size_append, ByteArray.size_extract, strOf_one]; omega
      · split
        · simp only [ByteArray.size_extract]; omega
        · simp only [ByteArray.size_append, ByteArray.size_extract, strOf_one]; omega
end Go.Proofs.YtdajhcammnlonaaDoor
