/- The draws of the reference: texts out of a row of texts, any text, own rows of bytes beside a cursor (walks). -/
import Derived.Test.YtdajhcammnlonaaDoorDraw2
import Derived.Test.YtdajhcammnlonaaDoorOwn
namespace Go.Proofs.YtdajhcammnlonaaDoor
open Go.RowKit
set_option linter.unusedVariables false
theorem OwnB.away {w w' : World} {base g : Nat} {v : Value} {l : List UInt8} (h : OwnB w base v l) (ha : Away g w w') (hg : g < base) : OwnB w' base v l := by
  obtain ⟨h1, h2⟩ := h
  refine ⟨h1, ?_⟩
  rcases h2 with h2 | ⟨k, cap, cur, hv, hb, hh, r⟩
  · exact Or.inl h2
  · have hk : k < w.heap.size := (show Has w k _ cur from hh).lt
    exact Or.inr ⟨k, cap, cur, hv, hb, (ha.block k hk (by omega)).trans hh, r⟩
theorem u8_int (z : Int) (h0 : 0 ≤ z) (h : z < 256) : z = ((UInt8.ofNat z.toNat).toNat : Int) := by
  rw [UInt8.toNat_ofNat']
  omega
def numS : List ByteArray := [⟨#[48]⟩, ⟨#[49]⟩, ⟨#[52, 50]⟩, ⟨#[51, 46, 53]⟩, ⟨#[46, 53]⟩, ⟨#[55, 46]⟩, ⟨#[49, 101, 51]⟩, ⟨#[50, 69, 45, 52]⟩, ⟨#[49, 48, 46, 50, 53, 101, 43, 49]⟩]
theorem numS_size : ∀ x ∈ numS, 1 ≤ x.size ∧ x.size ≤ 8 := by decide
set_option maxRecDepth 100000 in
theorem d_num (g : Nat) (cs : List UInt8) (s : Nat × Int) (w : World) (hc : Cur w g cs s) : Calls Tryd.prog 75 #[.pointer (some ⟨g, 0, none⟩)] w fun e w' => ∃ x, numS[(belowD cs 9 s).toNat]? = some x ∧ RetD w g cs (belowS cs 9 s) (.string x) e w' := by
  have hlt := hc.lt
  have hB : Below w.heap.size w (w.alloc (.cells (numS.map fun x => Value.string x).toArray 9)) := (Below.refl _ _).alloc (Nat.le_refl _) _
  have hcH := Lib.hid (hc.later hB)
  have hS := Lib.hid (StrsAt.made w numS 9)
  have hBH := Lib.hid hB
  clear hc hB
  go_enter Tryd.func75, Tryd.ntmps75
  go_wp2_with fail
  refine (d_pick g cs s _ _ _ numS _ rfl (by decide) (by decide) (by omega) hS.out hcH.out).mono ?_
  rintro e w1 ⟨x, hx, rfl, hc1, ha1⟩
  have hx := Lib.hid hx
  have hc1 := Lib.hid hc1
  have ha1 := Lib.hid ha1
  go_wp2_with fail
  go_ret
  exact ⟨x, hx.out, rfl, hc1.out, (Away.of_below hBH.out).trans ha1.out⟩
def strS : List ByteArray := [⟨#[34, 34]⟩, ⟨#[34, 97, 34]⟩, ⟨#[34, 120, 32, 121, 34]⟩, ⟨#[34, 113, 92, 34, 113, 34]⟩, ⟨#[34, 92, 110, 34]⟩, ⟨#[34, 35, 110, 111, 34]⟩, ⟨#[34, 47, 34]⟩]
theorem strS_size : ∀ x ∈ strS, 1 ≤ x.size ∧ x.size ≤ 8 := by decide
set_option maxRecDepth 100000 in
theorem d_str (g : Nat) (cs : List UInt8) (s : Nat × Int) (w : World) (hc : Cur w g cs s) : Calls Tryd.prog 84 #[.pointer (some ⟨g, 0, none⟩)] w fun e w' => ∃ x, strS[(belowD cs 7 s).toNat]? = some x ∧ RetD w g cs (belowS cs 7 s) (.string x) e w' := by
  have hlt := hc.lt
  have hB : Below w.heap.size w (w.alloc (.cells (strS.map fun x => Value.string x).toArray 9)) := (Below.refl _ _).alloc (Nat.le_refl _) _
  have hcH := Lib.hid (hc.later hB)
  have hS := Lib.hid (StrsAt.made w strS 9)
  have hBH := Lib.hid hB
  clear hc hB
  go_enter Tryd.func84, Tryd.ntmps84
  go_wp2_with fail
  refine (d_pick g cs s _ _ _ strS _ rfl (by decide) (by decide) (by omega) hS.out hcH.out).mono ?_
  rintro e w1 ⟨x, hx, rfl, hc1, ha1⟩
  have hx := Lib.hid hx
  have hc1 := Lib.hid hc1
  have ha1 := Lib.hid ha1
  go_wp2_with fail
  go_ret
  exact ⟨x, hx.out, rfl, hc1.out, (Away.of_below hBH.out).trans ha1.out⟩
def ereS : List ByteArray := [⟨#[47, 97, 47]⟩, ⟨#[47, 94, 120, 43, 36, 47]⟩, ⟨#[47, 97, 92, 47, 98, 47]⟩, ⟨#[47, 61, 47]⟩, ⟨#[47, 32, 47]⟩, ⟨#[47, 91, 48, 45, 57, 93, 47]⟩]
theorem ereS_size : ∀ x ∈ ereS, 1 ≤ x.size ∧ x.size ≤ 8 := by decide
set_option maxRecDepth 100000 in
theorem d_ere (g : Nat) (cs : List UInt8) (s : Nat × Int) (w : World) (hc : Cur w g cs s) : Calls Tryd.prog 115 #[.pointer (some ⟨g, 0, none⟩)] w fun e w' => ∃ x, ereS[(belowD cs 6 s).toNat]? = some x ∧ RetD w g cs (belowS cs 6 s) (.string x) e w' := by
  have hlt := hc.lt
  have hB : Below w.heap.size w (w.alloc (.cells (ereS.map fun x => Value.string x).toArray 9)) := (Below.refl _ _).alloc (Nat.le_refl _) _
  have hcH := Lib.hid (hc.later hB)
  have hS := Lib.hid (StrsAt.made w ereS 9)
  have hBH := Lib.hid hB
  clear hc hB
  go_enter Tryd.func115, Tryd.ntmps115
  go_wp2_with fail
  refine (d_pick g cs s _ _ _ ereS _ rfl (by decide) (by decide) (by omega) hS.out hcH.out).mono ?_
  rintro e w1 ⟨x, hx, rfl, hc1, ha1⟩
  have hx := Lib.hid hx
  have hc1 := Lib.hid hc1
  have ha1 := Lib.hid ha1
  go_wp2_with fail
  go_ret
  exact ⟨x, hx.out, rfl, hc1.out, (Away.of_below hBH.out).trans ha1.out⟩
set_option maxRecDepth 100000 in
set_option maxHeartbeats 1000000 in
theorem d_text (g : Nat) (cs : List UInt8) (s : Nat × Int) (m : Nat) (w : World) (hm : m ≤ 1000) (hc : Cur w g cs s) : Calls Tryd.prog 92 #[.pointer (some ⟨g, 0, none⟩), .int .i64 m] w (RetStr w g cs fun x => x.size ≤ m) := by
  have hlt := hc.lt
  have hcH := Lib.hid (hc.later ((Below.refl w.heap.size w).alloc (Nat.le_refl _) (.cells #[] 5)))
  have hO := Lib.hid (OwnB.start w (Nat.le_refl w.heap.size))
  have hA0 := Lib.hid ((Away.refl g w).alloc (.cells #[] 5))
  clear hc
  go_enter Tryd.func92, Tryd.ntmps92
  go_wp2_with fail
  refine (d_below _ _ _ _ _ (by omega) hcH.out).mono ?_
  rintro e w1 ⟨rfl, hc1, ha1⟩
  have hy := belowD_lt cs (show (0 : Int) < 4 by omega) s
  obtain ⟨y, hyy⟩ : ∃ y, belowD cs 4 s = y := ⟨_, rfl⟩
  rw [hyy] at hy ⊢
  clear hyy
  have hO1 := Lib.hid (hO.out.away ha1 hlt)
  have hA1 := Lib.hid (hA0.out.trans ha1)
  have hc1 := Lib.hid hc1
  clear ha1
  go_wp2_with fail
  refine (d_below _ _ _ _ _ (by omega) hc1.out).mono ?_
  rintro e w2 ⟨rfl, hc2, ha2⟩
  have hq := belowD_lt cs (show (0 : Int) < (m : Int) + 1 by omega) (belowS cs 4 s)
  obtain ⟨q0, hq0⟩ : ∃ q : Nat, belowD cs ((m : Int) + 1) (belowS cs 4 s) = (q : Int) := Int.eq_ofNat_of_zero_le hq.1
  rw [hq0] at hq ⊢
  clear hq0
  have hO2 := Lib.hid (hO1.out.away ha2 hlt)
  have hA2 := Lib.hid (hA1.out.trans ha2)
  have hc2 := Lib.hid hc2
  clear ha2
  go_wp2_with fail
  go_loopw [5, 7] (fun v x wr => ∃ (l : List UInt8) (q : Nat) (s' : Nat × Int), l.length + q ≤ m ∧ x = .int .i64 q ∧ Hid (OwnB wr w.heap.size v l) ∧ Hid (Cur wr g cs s') ∧ Hid (Away g w wr)) (fun _ x _ => (intOf x).toNat)
  case atStart => exact ⟨[], q0, _, by simp; omega, rfl, hO2, hc2, hA2⟩
  case round =>
    obtain ⟨l, q, s', hl, rfl, hO3, hc3, hA3⟩ := hrel
    by_cases h0 : q = 0
    · subst h0
      have hcv := conv_own hO3.out
      have hsz : Hid ((⟨l.toArray⟩ : ByteArray).size ≤ m) := by
        show l.toArray.size ≤ m
        simp
        omega
      go_wp2_with fail
      go_ret
      exact ⟨_, s', hsz.out, rfl, hc3.out, hA3.out⟩
    · obtain ⟨p, rfl⟩ : ∃ p, q = p + 1 := ⟨q - 1, by omega⟩
      have hz := byteD_lt cs s'
      obtain ⟨z, hzz⟩ : ∃ z, byteD cs s' = z := ⟨_, rfl⟩
      rw [hzz] at hz
      have hzzH := Lib.hid hzz
      clear hzz
      by_cases h1 : y = 1
      · subst h1
        have hu := Lib.hid (u8_int (z % 2) (by omega) (by omega))
        go_wp2_with fail
        refine (d_byte _ _ _ _ hc3.out).mono ?_
        rintro e w4 ⟨rfl, hc4, ha4⟩
        rw [hzzH.out]
        have hO4 := Lib.hid (hO3.out.away ha4 hlt)
        have hA4 := Lib.hid (hA3.out.trans ha4)
        have hs4 : w.heap.size ≤ w4.heap.size := hA4.out.size
        have hc4 := Lib.hid hc4
        clear ha4
        go_wp2_with (at_builtin; refine app_bytes (by rfl) _ _ (by rfl) w.heap.size _ l (by rfl) (hO4.out.alloc _) _ 1 1 [UInt8.ofNat (z % 2).toNat] (by rfl) rfl (one_newz _ _ _ hu.out _) (by omega) (by simp; omega) ?_; intro v' w' hown' hb'; have hown' := Lib.hid hown'; have hb' := Lib.hid hb')
        go_roundw
        case rel => exact ⟨_, p, _, by simp; omega, rfl, hown', (hc4.out.alloc _).keep hb'.out hlt, (hA4.out.alloc _).then_below hb'.out⟩
        case measure => simp [intOf]
      · have h1b : (y == 1) = false := by simpa using h1
        by_cases h2 : y = 2
        · subst h2
          have hu := Lib.hid (u8_int (97 + z % 4) (by omega) (by omega))
          go_wp2_with fail
          refine (d_byte _ _ _ _ hc3.out).mono ?_
          rintro e w4 ⟨rfl, hc4, ha4⟩
          rw [hzzH.out]
          have hO4 := Lib.hid (hO3.out.away ha4 hlt)
          have hA4 := Lib.hid (hA3.out.trans ha4)
          have hs4 : w.heap.size ≤ w4.heap.size := hA4.out.size
          have hc4 := Lib.hid hc4
          clear ha4
          go_wp2_with (at_builtin; refine app_bytes (by rfl) _ _ (by rfl) w.heap.size _ l (by rfl) (hO4.out.alloc _) _ 1 1 [UInt8.ofNat (97 + z % 4).toNat] (by rfl) rfl (one_newz _ _ _ hu.out _) (by omega) (by simp; omega) ?_; intro v' w' hown' hb'; have hown' := Lib.hid hown'; have hb' := Lib.hid hb')
          go_roundw
          case rel => exact ⟨_, p, _, by simp; omega, rfl, hown', (hc4.out.alloc _).keep hb'.out hlt, (hA4.out.alloc _).then_below hb'.out⟩
          case measure => simp [intOf]
        · have h2b : (y == 2) = false := by simpa using h2
          clear h1 h2
          have hu := Lib.hid (u8_int (z) (by omega) (by omega))
          go_wp2_with fail
          refine (d_byte _ _ _ _ hc3.out).mono ?_
          rintro e w4 ⟨rfl, hc4, ha4⟩
          rw [hzzH.out]
          have hO4 := Lib.hid (hO3.out.away ha4 hlt)
          have hA4 := Lib.hid (hA3.out.trans ha4)
          have hs4 : w.heap.size ≤ w4.heap.size := hA4.out.size
          have hc4 := Lib.hid hc4
          clear ha4
          go_wp2_with (at_builtin; refine app_bytes (by rfl) _ _ (by rfl) w.heap.size _ l (by rfl) (hO4.out.alloc _) _ 1 1 [UInt8.ofNat (z).toNat] (by rfl) rfl (one_newz _ _ _ hu.out _) (by omega) (by simp; omega) ?_; intro v' w' hown' hb'; have hown' := Lib.hid hown'; have hb' := Lib.hid hb')
          go_roundw
          case rel => exact ⟨_, p, _, by simp; omega, rfl, hown', (hc4.out.alloc _).keep hb'.out hlt, (hA4.out.alloc _).then_below hb'.out⟩
          case measure => simp [intOf]
end Go.Proofs.YtdajhcammnlonaaDoor
