/- The draws of numbers and texts, told exactly (walks). -/
import Derived.Test.YtdajhcammnlonaaDoorDraw3
import Derived.Test.YtdajhcammnlonaaDoorNum2
import Derived.Deep.RegionHeld3
namespace Go.Proofs.YtdajhcammnlonaaDoor
open Go.RowKit
set_option linter.unusedVariables false
def hashStep (h : Int) (b : UInt8) : Int := bits .and .i64 (h * 131 + (b.toNat : Int) + 7) 1073741823
def newS (cs : List UInt8) : Nat × Int := (0, (cs.take 4000).foldl hashStep (10101 + (cs.length : Int)))
theorem fold_take {α β : Type} {f : β → α → β} {l : List α} {j : Nat} {x : α} {b : β} (h : l[j]? = some x) : (l.take (j + 1)).foldl f b = f ((l.take j).foldl f b) x := by
  rw [List.take_add_one, h, List.foldl_append]
  rfl
/-- a new cursor, told exactly -/
def RetNewX (w : World) (cs : List UInt8) (e : Ending) (w' : World) : Prop := ∃ g, e = .returned (.pointer (some ⟨g, 0, none⟩)) ∧ w.heap.size ≤ g ∧ Cur w' g cs (newS cs) ∧ Below w.heap.size w w'
set_option maxRecDepth 100000 in
set_option maxHeartbeats 1000000 in
theorem x_new (v : Value) (cs : List UInt8) (w : World) (hl : cs.length ≤ 1048576) (h : BytesIn w w.heap.size v cs) : Calls Tryd.prog 55 #[v] w (RetNewX w cs) := by
  have hB := Lib.hid h
  obtain ⟨A, c, rfl, hlc, hcm, hcell⟩ := h
  unfold maxLen at hcm
  obtain ⟨n, hn⟩ : ∃ n, cs.length = n := ⟨_, rfl⟩
  rw [hn] at hl hlc hcell hB ⊢
  have hnH := Lib.hid hn
  clear hn
  go_enter Tryd.func55, Tryd.ntmps55
  go_wp2_with fail
  go_loop [3, 4] (fun x i => ∃ (z : Int) (j : Nat), j ≤ n ∧ j ≤ 4000 ∧ (0 ≤ z ∧ z ≤ 1073741823) ∧ Hid ((cs.take j).foldl hashStep (10101 + (n : Int)) = z) ∧ x = .int .i64 z ∧ i = .int .i64 j) (fun _ i => (n - (intOf i).toNat))
  case atStart => exact ⟨10101 + n, 0, by omega, by omega, by omega, rfl, rfl, by go_num⟩
  case round =>
    obtain ⟨z, j, hj, hj4, hz, hd, rfl, rfl⟩ := hrel
    have hfin : Hid ((j = n ∨ j = 4000) → ∀ W, W = w.alloc (.cells #[.slice A n c, .int .i64 0, .int .i64 z] 88) → RetNewX w cs (.returned (.pointer (some ⟨w.heap.size, 0, none⟩))) W) := by
      rintro hjj W rfl
      have hb : Below w.heap.size w (w.alloc (.cells #[.slice A n c, .int .i64 0, .int .i64 z] 88)) := (Below.refl _ _).alloc (Nat.le_refl _) _
      have hns : newS cs = (0, z) := by
        unfold newS
        rw [hnH.out, ← hd.out]
        rcases hjj with rfl | rfl
        · rw [List.take_of_length_le (by rw [hnH.out]; omega), List.take_of_length_le (by rw [hnH.out]; omega)]
        · rfl
      exact ⟨_, rfl, Nat.le_refl _, ⟨_, by rw [hns]; exact Has.made _ _ _, hB.out.keep hb (Nat.le_refl _), by rw [hns]; exact Nat.zero_le _, by rw [hns]; dsimp only; omega⟩, hb⟩
    by_cases hlt : j < n
    · by_cases h4 : j < 4000
      · obtain ⟨x, hx⟩ : ∃ x, cs[j]? = some x := ⟨cs[j]'(by rw [hnH.out]; exact hlt), List.getElem?_eq_getElem _⟩
        obtain ⟨b, off, hA, hbl, hc⟩ := hcell (by omega)
        subst hA
        have e0 := hc j x hx
        have hxl : (x.toNat : Int) < 256 := by have := x.toNat_lt; omega
        have hx0 : 0 ≤ (x.toNat : Int) := by omega
        obtain ⟨cb, hcb⟩ : ∃ cb : Int, (x.toNat : Int) = cb := ⟨_, rfl⟩
        have hst : Hid ((cs.take (j + 1)).foldl hashStep (10101 + (n : Int)) = bits .and .i64 (z * 131 + cb + 7) 1073741823) := by
          show _ = _
          rw [fold_take hx, hd.out, hashStep, hcb]
        rw [hcb] at e0 hxl hx0
        have hab := andBig (z * 131 + cb + 7)
        clear hcb hx hc hcell hfin
        go_wp2_with fail
        go_round
        case rel => exact ⟨_, j + 1, by omega, by omega, hab, hst, rfl, by go_num⟩
        case measure => simp [intOf]; omega
      · have hf := Lib.hid (hfin.out (Or.inr (by omega)))
        clear hcell hfin
        go_wp2_with fail
        go_ret
        exact hf.out _ rfl
    · have hf := Lib.hid (hfin.out (Or.inl (by omega)))
      obtain rfl : j = n := by omega
      clear hcell hfin
      go_wp2_with fail
      go_ret
      exact hf.out _ rfl
/-- the bytes of a text, from its last one's count on -/
def styleB (y z : Int) : Int := if y = 1 then z % 2 else if y = 2 then 97 + z % 4 else z
def textGo (cs : List UInt8) (y : Int) : Nat → (Nat × Int) → List UInt8 → List UInt8 × (Nat × Int)
  | 0, s, l => (l, s)
  | q + 1, s, l => textGo cs y q (stepD cs s) (l ++ [UInt8.ofNat (styleB y (byteD cs s)).toNat])
def textX (cs : List UInt8) (m : Nat) (s : Nat × Int) : List UInt8 × (Nat × Int) :=
  textGo cs (belowD cs 4 s) (belowD cs ((m : Int) + 1) (belowS cs 4 s)).toNat (belowS cs ((m : Int) + 1) (belowS cs 4 s)) []
theorem textGo_len (cs : List UInt8) (y : Int) : ∀ (q : Nat) (s : Nat × Int) (l : List UInt8), (textGo cs y q s l).1.length = l.length + q
  | 0, s, l => rfl
  | q + 1, s, l => by rw [textGo, textGo_len cs y q]; simp; omega
theorem textX_len (cs : List UInt8) (m : Nat) (s : Nat × Int) : (textX cs m s).1.length ≤ m := by
  have h := belowD_lt cs (show (0 : Int) < (m : Int) + 1 by omega) (belowS cs 4 s)
  unfold textX
  rw [textGo_len]
  simp
  omega
set_option maxRecDepth 100000 in
set_option maxHeartbeats 1000000 in
theorem x_text (g : Nat) (cs : List UInt8) (s : Nat × Int) (m : Nat) (w : World) (hm : m ≤ 1000) (hc : Cur w g cs s) : Calls Tryd.prog 92 #[.pointer (some ⟨g, 0, none⟩), .int .i64 m] w (RetD w g cs (textX cs m s).2 (.string ⟨(textX cs m s).1.toArray⟩)) := by
  have hlt := hc.lt
  have hcH := Lib.hid (hc.later ((Below.refl w.heap.size w).alloc (Nat.le_refl _) (.cells #[] 5)))
  have hO := Lib.hid (OwnB.start w (Nat.le_refl w.heap.size))
  have hA0 := Lib.hid ((Away.refl g w).alloc (.cells #[] 5))
  clear hc
  obtain ⟨R, hR⟩ : ∃ R, textX cs m s = R := ⟨_, rfl⟩
  rw [hR]
  have hRH : Hid (textGo cs (belowD cs 4 s) (belowD cs ((m : Int) + 1) (belowS cs 4 s)).toNat (belowS cs ((m : Int) + 1) (belowS cs 4 s)) [] = R) := hR
  clear hR
  go_enter Tryd.func92, Tryd.ntmps92
  go_wp2_with fail
  refine (d_below _ _ _ _ _ (by omega) hcH.out).mono ?_
  rintro e w1 ⟨rfl, hc1, ha1⟩
  have hy := belowD_lt cs (show (0 : Int) < 4 by omega) s
  obtain ⟨y, hyy⟩ : ∃ y, belowD cs 4 s = y := ⟨_, rfl⟩
  rw [hyy] at hy hRH ⊢
  clear hyy
  have hO1 := Lib.hid (hO.out.away ha1 hlt)
  have hA1 := Lib.hid (hA0.out.trans ha1)
  have hc1 := Lib.hid hc1
  clear ha1
  go_wp2_with fail
  refine (d_below _ _ _ _ _ (by omega) hc1.out).mono ?_
  rintro e w2 ⟨rfl, hc2, ha2⟩
  have hq := belowD_lt cs (show (0 : Int) < (m : Int) + 1 by omega) (belowS cs 4 s)
  obtain ⟨q0, hq0⟩ : ∃ q : Nat, belowD cs ((m : Int) + 1) (belowS cs 4 s) = (q : Int) := Int.eq_ofNat_of_zero_le hq.1
  rw [hq0, Int.toNat_natCast] at hRH
  rw [hq0] at hq ⊢
  clear hq0
  have hO2 := Lib.hid (hO1.out.away ha2 hlt)
  have hA2 := Lib.hid (hA1.out.trans ha2)
  have hc2 := Lib.hid hc2
  clear ha2
  go_wp2_with fail
  go_loopw [5, 7] (fun v x wr => ∃ (l : List UInt8) (q : Nat) (s' : Nat × Int), l.length + q ≤ m ∧ Hid (textGo cs y q s' l = R) ∧ x = .int .i64 q ∧ Hid (OwnB wr w.heap.size v l) ∧ Hid (Cur wr g cs s') ∧ Hid (Away g w wr)) (fun _ x _ => (intOf x).toNat)
  case atStart => exact ⟨[], q0, _, by simp; omega, hRH, rfl, hO2, hc2, hA2⟩
  case round =>
    obtain ⟨l, q, s', hl, hgo, rfl, hO3, hc3, hA3⟩ := hrel
    by_cases h0 : q = 0
    · subst h0
      have hcv := conv_own hO3.out
      have hfin : Hid (R = (l, s')) := hgo.out.symm
      go_wp2_with fail
      go_ret
      exact ⟨by rw [hfin.out]; rfl, by rw [hfin.out]; exact hc3.out, hA3.out⟩
    · obtain ⟨p, rfl⟩ : ∃ p, q = p + 1 := ⟨q - 1, by omega⟩
      have hz := byteD_lt cs s'
      obtain ⟨z, hzz⟩ : ∃ z, byteD cs s' = z := ⟨_, rfl⟩
      rw [hzz] at hz
      have hzzH := Lib.hid hzz
      have hnx : Hid (textGo cs y p (stepD cs s') (l ++ [UInt8.ofNat (styleB y z).toNat]) = R) := by
        show _ = _
        rw [← hgo.out, textGo, hzz]
      clear hzz
      by_cases h1 : y = 1
      · subst h1
        have hnx : Hid (textGo cs 1 p (stepD cs s') (l ++ [UInt8.ofNat (z % 2).toNat]) = R) := hnx
        have hu := Lib.hid (u8_int (z % 2) (by omega) (by omega))
        go_wp2_with fail
        refine (d_byte _ _ _ _ hc3.out).mono ?_
        rintro e w4 ⟨rfl, hc4, ha4⟩
        rw [hzzH.out]
        have hO4 := Lib.hid (hO3.out.away ha4 hlt)
        have hA4 := Lib.hid (hA3.out.trans ha4)
        have hs4 : w.heap.size ≤ w4.heap.size := hA4.out.size
        have hc4 := Lib.hid hc4
        clear ha4
        go_wp2_with (at_builtin; refine app_bytes (by rfl) _ _ (by rfl) w.heap.size _ l (by rfl) (hO4.out.alloc _) _ 1 1 [UInt8.ofNat (z % 2).toNat] (by rfl) rfl (one_newz _ _ _ hu.out _) (by omega) (by simp; omega) ?_; intro v' w' hown' hb'; have hown' := Lib.hid hown'; have hb' := Lib.hid hb')
        go_roundw
        case rel => exact ⟨_, p, _, by simp; omega, hnx, rfl, hown', (hc4.out.alloc _).keep hb'.out hlt, (hA4.out.alloc _).then_below hb'.out⟩
        case measure => simp [intOf]
      · have h1b : (y == 1) = false := by simpa using h1
        by_cases h2 : y = 2
        · subst h2
          have hnx : Hid (textGo cs 2 p (stepD cs s') (l ++ [UInt8.ofNat (97 + z % 4).toNat]) = R) := hnx
          have hu := Lib.hid (u8_int (97 + z % 4) (by omega) (by omega))
          go_wp2_with fail
          refine (d_byte _ _ _ _ hc3.out).mono ?_
          rintro e w4 ⟨rfl, hc4, ha4⟩
          rw [hzzH.out]
          have hO4 := Lib.hid (hO3.out.away ha4 hlt)
          have hA4 := Lib.hid (hA3.out.trans ha4)
          have hs4 : w.heap.size ≤ w4.heap.size := hA4.out.size
          have hc4 := Lib.hid hc4
          clear ha4
          go_wp2_with (at_builtin; refine app_bytes (by rfl) _ _ (by rfl) w.heap.size _ l (by rfl) (hO4.out.alloc _) _ 1 1 [UInt8.ofNat (97 + z % 4).toNat] (by rfl) rfl (one_newz _ _ _ hu.out _) (by omega) (by simp; omega) ?_; intro v' w' hown' hb'; have hown' := Lib.hid hown'; have hb' := Lib.hid hb')
          go_roundw
          case rel => exact ⟨_, p, _, by simp; omega, hnx, rfl, hown', (hc4.out.alloc _).keep hb'.out hlt, (hA4.out.alloc _).then_below hb'.out⟩
          case measure => simp [intOf]
        · have h2b : (y == 2) = false := by simpa using h2
          have hnx : Hid (textGo cs y p (stepD cs s') (l ++ [UInt8.ofNat z.toNat]) = R) := by
            have h := hnx.out
            rw [styleB, if_neg h1, if_neg h2] at h
            exact h
          clear h1 h2
          have hu := Lib.hid (u8_int (z) (by omega) (by omega))
          go_wp2_with fail
          refine (d_byte _ _ _ _ hc3.out).mono ?_
          rintro e w4 ⟨rfl, hc4, ha4⟩
          rw [hzzH.out]
          have hO4 := Lib.hid (hO3.out.away ha4 hlt)
          have hA4 := Lib.hid (hA3.out.trans ha4)
          have hs4 : w.heap.size ≤ w4.heap.size := hA4.out.size
          have hc4 := Lib.hid hc4
          clear ha4
          go_wp2_with (at_builtin; refine app_bytes (by rfl) _ _ (by rfl) w.heap.size _ l (by rfl) (hO4.out.alloc _) _ 1 1 [UInt8.ofNat (z).toNat] (by rfl) rfl (one_newz _ _ _ hu.out _) (by omega) (by simp; omega) ?_; intro v' w' hown' hb'; have hown' := Lib.hid hown'; have hb' := Lib.hid hb')
          go_roundw
          case rel => exact ⟨_, p, _, by simp; omega, hnx, rfl, hown', (hc4.out.alloc _).keep hb'.out hlt, (hA4.out.alloc _).then_below hb'.out⟩
          case measure => simp [intOf]
def numsL : List Int := [-1, 0, 127, 128, 255, 256, 16383, 16384, 65535, 65536, 562949953421311, 562949953421312, 999999999, 1000000000, -999999999, 9223372036854775807, -9223372036854775808]
theorem numsL_ok : ∀ x ∈ numsL, -9223372036854775808 ≤ x ∧ x ≤ 9223372036854775807 := by decide
def numX (cs : List UInt8) (s : Nat × Int) : Int × (Nat × Int) :=
  if belowD cs 8 s = 0 then (numsL.getD (belowD cs 17 (belowS cs 8 s)).toNat 0, belowS cs 17 (belowS cs 8 s))
  else if belowD cs 8 s = 1 then (belowD cs 1000000000 (belowS cs 8 s) * belowD cs 1000000000 (belowS cs 1000000000 (belowS cs 8 s)), belowS cs 1000000000 (belowS cs 1000000000 (belowS cs 8 s)))
  else if belowD cs 8 s = 2 then (-belowD cs 100000 (belowS cs 8 s), belowS cs 100000 (belowS cs 8 s))
  else (belowD cs 70000 (belowS cs 8 s), belowS cs 70000 (belowS cs 8 s))
theorem numX_ok (cs : List UInt8) (s : Nat × Int) : -9223372036854775808 ≤ (numX cs s).1 ∧ (numX cs s).1 ≤ 9223372036854775807 := by
  unfold numX
  split
  · dsimp only
    rw [List.getD_eq_getElem?_getD]
    cases hx : numsL[(belowD cs 17 (belowS cs 8 s)).toNat]? with
    | none => simp
    | some x => exact numsL_ok x (List.mem_of_getElem? hx)
  · split
    · dsimp only
      have h1 := belowD_lt cs (show (0 : Int) < 1000000000 by omega) (belowS cs 8 s)
      have h2 := belowD_lt cs (show (0 : Int) < 1000000000 by omega) (belowS cs 1000000000 (belowS cs 8 s))
      have h3 := Int.mul_nonneg h1.1 h2.1
      have h4 : belowD cs 1000000000 (belowS cs 8 s) * belowD cs 1000000000 (belowS cs 1000000000 (belowS cs 8 s)) ≤ 1000000000 * 1000000000 := Int.mul_le_mul (by omega) (by omega) h2.1 (by omega)
      omega
    · split
      · dsimp only
        have h1 := belowD_lt cs (show (0 : Int) < 100000 by omega) (belowS cs 8 s)
        omega
      · dsimp only
        have h1 := belowD_lt cs (show (0 : Int) < 70000 by omega) (belowS cs 8 s)
        omega
set_option maxRecDepth 100000 in
set_option maxHeartbeats 1000000 in
theorem x_num (g : Nat) (cs : List UInt8) (s : Nat × Int) (w : World) (hc : Cur w g cs s) : Calls Tryd.prog 91 #[.pointer (some ⟨g, 0, none⟩)] w (RetD w g cs (numX cs s).2 (.int .i64 (numX cs s).1)) := by
  have hlt := hc.lt
  have hcH := Lib.hid hc
  clear hc
  have hy := belowD_lt cs (show (0 : Int) < 8 by omega) s
  obtain ⟨y, hyy⟩ : ∃ y, belowD cs 8 s = y := ⟨_, rfl⟩
  rw [hyy] at hy
  have hR : Hid (numX cs s = if y = 0 then (numsL.getD (belowD cs 17 (belowS cs 8 s)).toNat 0, belowS cs 17 (belowS cs 8 s))
    else if y = 1 then (belowD cs 1000000000 (belowS cs 8 s) * belowD cs 1000000000 (belowS cs 1000000000 (belowS cs 8 s)), belowS cs 1000000000 (belowS cs 1000000000 (belowS cs 8 s)))
    else if y = 2 then (-belowD cs 100000 (belowS cs 8 s), belowS cs 100000 (belowS cs 8 s))
    else (belowD cs 70000 (belowS cs 8 s), belowS cs 70000 (belowS cs 8 s))) := by show _ = _; unfold numX; rw [hyy]
  have hyH := Lib.hid hyy
  clear hyy
  by_cases h0 : y = 0
  · subst h0
    have hR2 := Lib.hid (hR.out.trans (if_pos rfl))
    go_enter Tryd.func91, Tryd.ntmps91
    go_wp2_with fail
    refine (d_below _ _ _ _ _ (by omega) hcH.out).mono ?_
    rintro e w1 ⟨rfl, hc1, ha1⟩
    rw [hyH.out]
    have hl1 : g < w1.heap.size := hc1.lt
    have hc2 := Lib.hid (hc1.alloc (.cells (numsL.map fun x => Value.int .i64 x).toArray 3))
    have hS := Lib.hid (NumsAt.made w1 numsL 3)
    have hA1 := Lib.hid (ha1.alloc (.cells (numsL.map fun x => Value.int .i64 x).toArray 3))
    clear hc1 ha1
    go_wp2_with fail
    refine (d_pickInt g cs _ _ _ _ numsL _ rfl (by decide) (by decide) (by omega) hS.out hc2.out).mono ?_
    rintro e w3 ⟨x, hx, rfl, hc3, ha3⟩
    have hx := Lib.hid hx
    have hc3 := Lib.hid hc3
    have hA3 := Lib.hid (hA1.out.trans ha3)
    clear ha3
    go_wp2_with fail
    go_ret
    refine ⟨ret_int ?_, by rw [hR2.out]; exact hc3.out, hA3.out⟩
    rw [hR2.out]
    dsimp only
    rw [List.getD_eq_getElem?_getD]
    have h : numsL[(belowD cs 17 (belowS cs 8 s)).toNat]? = some x := hx.out
    rw [h]
    rfl
  by_cases h1 : y = 1
  · subst h1
    have hR2 := Lib.hid ((hR.out.trans (if_neg (by omega))).trans (if_pos rfl))
    have hb1 := belowD_lt cs (show (0 : Int) < 1000000000 by omega) (belowS cs 8 s)
    have hb2 := belowD_lt cs (show (0 : Int) < 1000000000 by omega) (belowS cs 1000000000 (belowS cs 8 s))
    have h3 := Int.mul_nonneg hb1.1 hb2.1
    have h4 : belowD cs 1000000000 (belowS cs 8 s) * belowD cs 1000000000 (belowS cs 1000000000 (belowS cs 8 s)) ≤ 1000000000 * 1000000000 := Int.mul_le_mul (by omega) (by omega) hb2.1 (by omega)
    obtain ⟨a, ha⟩ : ∃ a, belowD cs 1000000000 (belowS cs 8 s) = a := ⟨_, rfl⟩
    obtain ⟨b, hb⟩ : ∃ b, belowD cs 1000000000 (belowS cs 1000000000 (belowS cs 8 s)) = b := ⟨_, rfl⟩
    rw [ha, hb] at h3 h4
    rw [ha] at hb1
    rw [hb] at hb2
    rw [ha, hb] at hR2
    have hw : wrap64 (a * b) = a * b := IntWalk.wrap64_in _ (by omega)
    have ha := Lib.hid ha
    have hb := Lib.hid hb
    go_enter Tryd.func91, Tryd.ntmps91
    go_wp2_with fail
    refine (d_below _ _ _ _ _ (by omega) hcH.out).mono ?_
    rintro e w1 ⟨rfl, hc1, ha1⟩
    rw [hyH.out]
    have hc1 := Lib.hid hc1
    have hA1 := Lib.hid ha1
    clear ha1
    go_wp2_with fail
    refine (d_below _ _ _ _ _ (by omega) hc1.out).mono ?_
    rintro e w2 ⟨rfl, hc2, ha2⟩
    rw [ha.out]
    have hc2 := Lib.hid hc2
    have hA2 := Lib.hid (hA1.out.trans ha2)
    clear ha2
    go_wp2_with fail
    refine (d_below _ _ _ _ _ (by omega) hc2.out).mono ?_
    rintro e w3 ⟨rfl, hc3, ha3⟩
    rw [hb.out]
    have hc3 := Lib.hid hc3
    have hA3 := Lib.hid (hA2.out.trans ha3)
    clear ha3
    go_wp2_with fail
    go_ret
    exact ⟨ret_int (by rw [hR2.out]), by rw [hR2.out]; exact hc3.out, hA3.out⟩
  by_cases h2 : y = 2
  · subst h2
    have hR2 := Lib.hid (((hR.out.trans (if_neg (by omega))).trans (if_neg (by omega))).trans (if_pos rfl))
    have hb1 := belowD_lt cs (show (0 : Int) < 100000 by omega) (belowS cs 8 s)
    obtain ⟨a, ha⟩ : ∃ a, belowD cs 100000 (belowS cs 8 s) = a := ⟨_, rfl⟩
    rw [ha] at hb1
    rw [ha] at hR2
    have ha := Lib.hid ha
    go_enter Tryd.func91, Tryd.ntmps91
    go_wp2_with fail
    refine (d_below _ _ _ _ _ (by omega) hcH.out).mono ?_
    rintro e w1 ⟨rfl, hc1, ha1⟩
    rw [hyH.out]
    have hc1 := Lib.hid hc1
    have hA1 := Lib.hid ha1
    clear ha1
    go_wp2_with fail
    refine (d_below _ _ _ _ _ (by omega) hc1.out).mono ?_
    rintro e w2 ⟨rfl, hc2, ha2⟩
    rw [ha.out]
    have hc2 := Lib.hid hc2
    have hA2 := Lib.hid (hA1.out.trans ha2)
    clear ha2
    go_wp2_with fail
    go_ret
    exact ⟨ret_int (by rw [hR2.out]), by rw [hR2.out]; exact hc2.out, hA2.out⟩
  · have hR2 := Lib.hid (((hR.out.trans (if_neg h0)).trans (if_neg h1)).trans (if_neg h2))
    have hb1 := belowD_lt cs (show (0 : Int) < 70000 by omega) (belowS cs 8 s)
    obtain ⟨a, ha⟩ : ∃ a, belowD cs 70000 (belowS cs 8 s) = a := ⟨_, rfl⟩
    rw [ha] at hb1
    rw [ha] at hR2
    have ha := Lib.hid ha
    have e0 : (y == 0) = false := by simpa using h0
    have e1 : (y == 1) = false := by simpa using h1
    have e2 : (y == 2) = false := by simpa using h2
    clear h0 h1 h2
    go_enter Tryd.func91, Tryd.ntmps91
    go_wp2_with fail
    refine (d_below _ _ _ _ _ (by omega) hcH.out).mono ?_
    rintro e w1 ⟨rfl, hc1, ha1⟩
    rw [hyH.out]
    have hc1 := Lib.hid hc1
    have hA1 := Lib.hid ha1
    clear ha1
    go_wp2_with fail
    refine (d_below _ _ _ _ _ (by omega) hc1.out).mono ?_
    rintro e w2 ⟨rfl, hc2, ha2⟩
    rw [ha.out]
    have hc2 := Lib.hid hc2
    have hA2 := Lib.hid (hA1.out.trans ha2)
    clear ha2
    go_wp2_with fail
    go_ret
    exact ⟨ret_int (by rw [hR2.out]), by rw [hR2.out]; exact hc2.out, hA2.out⟩
end Go.Proofs.YtdajhcammnlonaaDoor
