/- The draws of the reference: a number below another, a pick out of a row, a new cursor, a word (walks). -/
import Derived.Test.YtlabmboedjnpmaaDraw
namespace Go.Proofs.Ytlabmboedjnpmaa
open Go.RowKit
set_option linter.unusedVariables false
set_option maxRecDepth 100000 in
set_option maxHeartbeats 1000000 in
theorem d_below (g : Nat) (cs : List UInt8) (s : Nat × Int) (n : Int) (w : World) (hn : n ≤ 4294967296) (hc : Cur w g cs s) : Calls Try.prog 23 #[.pointer (some ⟨g, 0, none⟩), .int .i64 n] w (RetD w g cs (belowS cs n s) (.int .i64 (belowD cs n s))) := by
  have hcH := Lib.hid hc
  clear hc
  by_cases h1 : n ≤ 0
  · have hv := Lib.hid (show belowD cs n s = 0 by rw [belowD, if_pos h1])
    have hs := Lib.hid (show belowS cs n s = s by rw [belowS, if_pos h1])
    go_enter Try.func23, Try.ntmps23
    go_wp2_with fail
    go_ret
    exact ⟨ret_int hv.out.symm, by rw [hs.out]; exact hcH.out, Away.refl _ _⟩
  · have h0 : 0 < n := by omega
    by_cases h2 : n ≤ 256
    · have hv := Lib.hid (show belowD cs n s = byteD cs s % n by rw [belowD, if_neg h1, if_pos h2])
      have hs := Lib.hid (show belowS cs n s = stepD cs s by rw [belowS, if_neg h1, if_pos h2])
      have hb := byteD_lt cs s
      obtain ⟨x, hx⟩ : ∃ x, byteD cs s = x := ⟨_, rfl⟩
      rw [hx] at hb hv
      have hx := Lib.hid hx
      clear h1
      go_enter Try.func23, Try.ntmps23
      go_wp2_with (go_at_call 33; refine (d_byte _ _ _ _ hcH.out).mono ?_; rintro e w1 ⟨rfl, hc1, ha1⟩; rw [hx.out]; have hc1 := Lib.hid hc1; have ha1 := Lib.hid ha1)
      go_ret
      exact ⟨ret_int hv.out.symm, by rw [hs.out]; exact hc1.out, ha1.out⟩
    · have hv := Lib.hid (show belowD cs n s = (byteD cs s * 16777216 + byteD cs (stepD cs s) * 65536 + byteD cs (stepD cs (stepD cs s)) * 256 + byteD cs (stepD cs (stepD cs (stepD cs s)))) % n by rw [belowD, if_neg h1, if_neg h2])
      have hs := Lib.hid (show belowS cs n s = stepD cs (stepD cs (stepD cs (stepD cs s))) by rw [belowS, if_neg h1, if_neg h2])
      have hb := byteD_lt cs s
      have hb2 := byteD_lt cs (stepD cs s)
      have hb3 := byteD_lt cs (stepD cs (stepD cs s))
      have hb4 := byteD_lt cs (stepD cs (stepD cs (stepD cs s)))
      obtain ⟨x, hx⟩ : ∃ x, byteD cs s = x := ⟨_, rfl⟩
      obtain ⟨x2, hx2⟩ : ∃ x, byteD cs (stepD cs s) = x := ⟨_, rfl⟩
      obtain ⟨x3, hx3⟩ : ∃ x, byteD cs (stepD cs (stepD cs s)) = x := ⟨_, rfl⟩
      obtain ⟨x4, hx4⟩ : ∃ x, byteD cs (stepD cs (stepD cs (stepD cs s))) = x := ⟨_, rfl⟩
      rw [hx] at hb
      rw [hx2] at hb2
      rw [hx3] at hb3
      rw [hx4] at hb4
      rw [hx, hx2, hx3, hx4] at hv
      have hx := Lib.hid hx
      have hx2 := Lib.hid hx2
      have hx3 := Lib.hid hx3
      have hx4 := Lib.hid hx4
      clear h1
      go_enter Try.func23, Try.ntmps23
      go_wp2_with fail
      refine (d_byte _ _ _ _ hcH.out).mono ?_
      rintro e w1 ⟨rfl, hc1, ha1⟩
      rw [hx.out]
      have hc1 := Lib.hid hc1
      have ha1 := Lib.hid ha1
      go_wp2_with fail
      refine (d_byte _ _ _ _ hc1.out).mono ?_
      rintro e w2 ⟨rfl, hc2, ha2⟩
      rw [hx2.out]
      have hc2 := Lib.hid hc2
      have ha2 := Lib.hid ha2
      go_wp2_with fail
      refine (d_byte _ _ _ _ hc2.out).mono ?_
      rintro e w3 ⟨rfl, hc3, ha3⟩
      rw [hx3.out]
      have hc3 := Lib.hid hc3
      have ha3 := Lib.hid ha3
      go_wp2_with fail
      refine (d_byte _ _ _ _ hc3.out).mono ?_
      rintro e w4 ⟨rfl, hc4, ha4⟩
      rw [hx4.out]
      have hc4 := Lib.hid hc4
      have ha4 := Lib.hid ha4
      go_wp2_with fail
      go_ret
      exact ⟨ret_int hv.out.symm, by rw [hs.out]; exact hc4.out, ((ha1.out.trans ha2.out).trans ha3.out).trans ha4.out⟩
theorem d_once (g : Nat) (cs : List UInt8) (s : Nat × Int) (n : Int) (w : World) (hn : n ≤ 4294967296) (hc : Cur w g cs s) : Calls Try.prog 30 #[.pointer (some ⟨g, 0, none⟩), .int .i64 n] w (RetD w g cs (belowS cs n s) (.bool (belowD cs n s == 0))) := by
  have hcH := Lib.hid hc
  clear hc
  go_enter Try.func30, Try.ntmps30
  go_wp2_with (go_at_call 23; refine (d_below _ _ _ _ _ hn hcH.out).mono ?_; rintro e w1 ⟨rfl, hc1, ha1⟩; have hc1 := Lib.hid hc1; have ha1 := Lib.hid ha1)
  go_ret
  exact ⟨rfl, hc1.out, ha1.out⟩
set_option maxRecDepth 100000 in
theorem d_pick (g : Nat) (cs : List UInt8) (s : Nat × Int) (b n c : Nat) (l : List ByteArray) (w : World) (hl : l.length = n) (hn : 0 < n) (hnc : n ≤ 1000) (hb : b ≠ g) (hr : StrsAt w b l) (hc : Cur w g cs s) :
    Calls Try.prog 43 #[.pointer (some ⟨g, 0, none⟩), .slice (some ⟨b, 0, none⟩) n c] w fun e w' => ∃ x, l[(belowD cs n s).toNat]? = some x ∧ RetD w g cs (belowS cs n s) (.string x) e w' := by
  have hlt := belowD_lt cs (show (0 : Int) < (n : Int) by omega) s
  obtain ⟨k, hk⟩ : ∃ k, (belowD cs n s).toNat = k := ⟨_, rfl⟩
  have hk2 : belowD cs n s = (k : Int) := by omega
  have hkn : k < n := by omega
  obtain ⟨x, hx⟩ : ∃ x, l[k]? = some x := ⟨l[k]'(by omega), List.getElem?_eq_getElem _⟩
  have hxr := Lib.hid (fun (W : World) (ha : Away g w W) => (ha.cell hr.1 hb k).trans (hr.2 k x hx))
  have hk2 := Lib.hid hk2
  have hcH := Lib.hid hc
  have hxH := Lib.hid hx
  rw [hk]
  clear hlt hk hc hl hr hx
  go_enter Try.func43, Try.ntmps43
  go_wp2_with fail
  refine (d_below _ _ _ _ _ (by omega) hcH.out).mono ?_
  rintro e w1 ⟨rfl, hc1, ha1⟩
  rw [hk2.out]
  have e0 := hxr.out w1 ha1
  have hc1 := Lib.hid hc1
  have ha1 := Lib.hid ha1
  go_wp2_with fail
  go_ret
  exact ⟨x, hxH.out, rfl, hc1.out, ha1.out⟩
set_option maxRecDepth 100000 in
theorem d_pickInt (g : Nat) (cs : List UInt8) (s : Nat × Int) (b n c : Nat) (l : List Int) (w : World) (hl : l.length = n) (hn : 0 < n) (hnc : n ≤ 1000) (hb : b ≠ g) (hr : NumsAt w b l) (hc : Cur w g cs s) :
    Calls Try.prog 32 #[.pointer (some ⟨g, 0, none⟩), .slice (some ⟨b, 0, none⟩) n c] w fun e w' => ∃ x, l[(belowD cs n s).toNat]? = some x ∧ RetD w g cs (belowS cs n s) (.int .i64 x) e w' := by
  have hlt := belowD_lt cs (show (0 : Int) < (n : Int) by omega) s
  obtain ⟨k, hk⟩ : ∃ k, (belowD cs n s).toNat = k := ⟨_, rfl⟩
  have hk2 : belowD cs n s = (k : Int) := by omega
  have hkn : k < n := by omega
  obtain ⟨x, hx⟩ : ∃ x, l[k]? = some x := ⟨l[k]'(by omega), List.getElem?_eq_getElem _⟩
  have hxr := Lib.hid (fun (W : World) (ha : Away g w W) => (ha.cell hr.1 hb k).trans (hr.2 k x hx))
  have hk2 := Lib.hid hk2
  have hcH := Lib.hid hc
  have hxH := Lib.hid hx
  rw [hk]
  clear hlt hk hc hl hr hx
  go_enter Try.func32, Try.ntmps32
  go_wp2_with fail
  refine (d_below _ _ _ _ _ (by omega) hcH.out).mono ?_
  rintro e w1 ⟨rfl, hc1, ha1⟩
  rw [hk2.out]
  have e0 := hxr.out w1 ha1
  have hc1 := Lib.hid hc1
  have ha1 := Lib.hid ha1
  go_wp2_with fail
  go_ret
  exact ⟨x, hxH.out, rfl, hc1.out, ha1.out⟩
/-- a text out of a row: any of it -/
def RetStr (w : World) (g : Nat) (cs : List UInt8) (P : ByteArray → Prop) (e : Ending) (w' : World) : Prop := ∃ x s', P x ∧ RetD w g cs s' (.string x) e w'
def wordL : List ByteArray := [⟨#[120]⟩, ⟨#[121]⟩, ⟨#[110]⟩, ⟨#[105]⟩, ⟨#[97, 114, 114]⟩, ⟨#[78, 82]⟩, ⟨#[70, 83]⟩, ⟨#[116, 111, 116, 97, 108]⟩, ⟨#[97, 49]⟩, ⟨#[95, 116]⟩, ⟨#[99, 111, 117, 110, 116]⟩]
set_option maxRecDepth 100000 in
theorem d_word (g : Nat) (cs : List UInt8) (s : Nat × Int) (w : World) (hc : Cur w g cs s) : Calls Try.prog 41 #[.pointer (some ⟨g, 0, none⟩)] w fun e w' => ∃ x, wordL[(belowD cs 11 s).toNat]? = some x ∧ RetD w g cs (belowS cs 11 s) (.string x) e w' := by
  have hlt := hc.lt
  have hB : Below w.heap.size w (w.alloc (.cells (wordL.map fun x => Value.string x).toArray 9)) := (Below.refl _ _).alloc (Nat.le_refl _) _
  have hcH := Lib.hid (hc.later hB)
  have hS := Lib.hid (StrsAt.made w wordL 9)
  have hBH := Lib.hid hB
  clear hc hB
  go_enter Try.func41, Try.ntmps41
  go_wp2_with fail
  refine (d_pick g cs s _ _ _ wordL _ rfl (by decide) (by decide) (by omega) hS.out hcH.out).mono ?_
  rintro e w1 ⟨x, hx, rfl, hc1, ha1⟩
  have hx := Lib.hid hx
  have hc1 := Lib.hid hc1
  have ha1 := Lib.hid ha1
  go_wp2_with fail
  go_ret
  exact ⟨x, hx.out, rfl, hc1.out, (Away.of_below hBH.out).trans ha1.out⟩
/-- a new cursor -/
def RetNew (w : World) (cs : List UInt8) (e : Ending) (w' : World) : Prop := ∃ g s, e = .returned (.pointer (some ⟨g, 0, none⟩)) ∧ w.heap.size ≤ g ∧ Cur w' g cs s ∧ Below w.heap.size w w'
theorem andBig (x : Int) : 0 ≤ bits .and .i64 x 1073741823 ∧ bits .and .i64 x 1073741823 ≤ 1073741823 := by
  have e : bits .and .i64 x 1073741823 = IntKind.i64.wrap ((BitVec.ofInt 64 x &&& BitVec.ofInt 64 1073741823).toNat : Int) := rfl
  have e2 : (BitVec.ofInt 64 1073741823).toNat = 1073741823 := by decide
  have h : (BitVec.ofInt 64 x &&& BitVec.ofInt 64 1073741823).toNat ≤ 1073741823 := by
    rw [BitVec.toNat_and, e2]
    exact Nat.and_le_right
  rw [e, IntWalk.i64_in _ (by omega)]
  omega
set_option maxRecDepth 100000 in
set_option maxHeartbeats 1000000 in
theorem d_new (v : Value) (cs : List UInt8) (w : World) (hl : cs.length ≤ 1048576) (h : BytesIn w w.heap.size v cs) : Calls Try.prog 18 #[v] w (RetNew w cs) := by
  have hB := Lib.hid h
  obtain ⟨A, c, rfl, hlc, hcm, hcell⟩ := h
  unfold maxLen at hcm
  obtain ⟨n, hn⟩ : ∃ n, cs.length = n := ⟨_, rfl⟩
  rw [hn] at hl hlc hcell hB ⊢
  have hnH := Lib.hid hn
  clear hn
  go_enter Try.func18, Try.ntmps18
  go_wp2_with fail
  go_loop [3, 4] (fun x i => ∃ (z : Int) (j : Nat), j ≤ n ∧ (0 ≤ z ∧ z ≤ 1073741823) ∧ x = .int .i64 z ∧ i = .int .i64 j) (fun _ i => (n - (intOf i).toNat))
  case atStart => exact ⟨10101 + n, 0, by omega, by omega, rfl, by go_num⟩
  case round =>
    obtain ⟨z, j, hj, hz, rfl, rfl⟩ := hrel
    have hfin : ∀ W, W = w.alloc (.cells #[.slice A n c, .int .i64 0, .int .i64 z] 51) → RetNew w cs (.returned (.pointer (some ⟨w.heap.size, 0, none⟩))) W := by
      rintro W rfl
      have hb : Below w.heap.size w (w.alloc (.cells #[.slice A n c, .int .i64 0, .int .i64 z] 51)) := (Below.refl _ _).alloc (Nat.le_refl _) _
      exact ⟨_, (0, z), rfl, Nat.le_refl _, ⟨_, Has.made _ _ _, hB.out.keep hb (Nat.le_refl _), Nat.zero_le _, by dsimp only; omega⟩, hb⟩
    have hfin := Lib.hid hfin
    by_cases hlt : j < n
    · by_cases h4 : j < 4000
      · obtain ⟨x, hx⟩ : ∃ x, cs[j]? = some x := ⟨cs[j]'(by rw [hnH.out]; exact hlt), List.getElem?_eq_getElem _⟩
        obtain ⟨b, off, hA, hbl, hc⟩ := hcell (by omega)
        subst hA
        have e0 := hc j x hx
        have hxl : (x.toNat : Int) < 256 := by have := x.toNat_lt; omega
        have hx0 : 0 ≤ (x.toNat : Int) := by omega
        obtain ⟨cb, hcb⟩ : ∃ cb : Int, (x.toNat : Int) = cb := ⟨_, rfl⟩
        rw [hcb] at e0 hxl hx0
        have hab := andBig (z * 131 + cb + 7)
        clear hcb hx hc hcell
        go_wp2_with fail
        go_round
        case rel => exact ⟨_, j + 1, by omega, hab, rfl, by go_num⟩
        case measure => simp [intOf]; omega
      · clear hcell
        go_wp2_with fail
        go_ret
        exact hfin.out _ rfl
    · obtain rfl : j = n := by omega
      clear hcell
      go_wp2_with fail
      go_ret
      exact hfin.out _ rfl
end Go.Proofs.Ytlabmboedjnpmaa
