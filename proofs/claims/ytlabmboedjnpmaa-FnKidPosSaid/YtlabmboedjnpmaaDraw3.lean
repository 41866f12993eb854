/- The draws of the reference: texts out of a row of texts, any text, own rows of bytes beside a cursor (walks). -/
import Derived.Test.YtlabmboedjnpmaaDraw2
import Derived.Test.YtlabmboedjnpmaaOwn
namespace Go.Proofs.Ytlabmboedjnpmaa
open Go.RowKit
set_option linter.unusedVariables false
theorem OwnB.away {w w' : World} {base g : Nat} {v : Value} {l : List UInt8} (h : OwnB w base v l) (ha : Away g w w') (hg : g < base) : OwnB w' base v l := by
  obtain ⟨h1, h2⟩ := h
  refine ⟨h1, ?_⟩
  rcases h2 with h2 | ⟨k, cap, cur, hv, hb, hh, r⟩
  · exact Or.inl h2
  · have hk : k < w.heap.size := (show Has w k _ cur from hh).lt
    exact Or.inr ⟨k, cap, cur, hv, hb, (ha.block k hk (by omega)).trans hh, r⟩
theorem u8_int (z : Int) (h0 : 0 ≤ z) (h : z < 256) : z = ((UInt8.ofNat z.toNat).toNat : Int) := by
  rw [UInt8.toNat_ofNat']
  omega
def numS : List ByteArray := [⟨#[48]⟩, ⟨#[49]⟩, ⟨#[52, 50]⟩, ⟨#[51, 46, 53]⟩, ⟨#[46, 53]⟩, ⟨#[55, 46]⟩, ⟨#[49, 101, 51]⟩, ⟨#[50, 69, 45, 52]⟩, ⟨#[49, 48, 46, 50, 53, 101, 43, 49]⟩]
theorem numS_size : ∀ x ∈ numS, 1 ≤ x.size ∧ x.size ≤ 8 := by decide
set_option maxRecDepth 100000 in
theorem d_num (g : Nat) (cs : List UInt8) (s : Nat × Int) (w : World) (hc : Cur w g cs s) : Calls Try.prog 49 #[.pointer (some ⟨g, 0, none⟩)] w fun e w' => ∃ x, numS[(belowD cs 9 s).toNat]? = some x ∧ RetD w g cs (belowS cs 9 s) (.string x) e w' := by
  have hlt := hc.lt
  have hB : Below w.heap.size w (w.alloc (.cells (numS.map fun x => Value.string x).toArray 9)) := (Below.refl _ _).alloc (Nat.le_refl _) _
  have hcH := Lib.hid (hc.later hB)
  have hS := Lib.hid (StrsAt.made w numS 9)
  have hBH := Lib.hid hB
  clear hc hB
  go_enter Try.func49, Try.ntmps49
  go_wp2_with fail
  refine (d_pick g cs s _ _ _ numS _ rfl (by decide) (by decide) (by omega) hS.out hcH.out).mono ?_
  rintro e w1 ⟨x, hx, rfl, hc1, ha1⟩
  have hx := Lib.hid hx
  have hc1 := Lib.hid hc1
  have ha1 := Lib.hid ha1
  go_wp2_with fail
  go_ret
  exact ⟨x, hx.out, rfl, hc1.out, (Away.of_below hBH.out).trans ha1.out⟩
def strS : List ByteArray := [⟨#[34, 34]⟩, ⟨#[34, 97, 34]⟩, ⟨#[34, 120, 32, 121, 34]⟩, ⟨#[34, 113, 92, 34, 113, 34]⟩, ⟨#[34, 92, 110, 34]⟩, ⟨#[34, 35, 110, 111, 34]⟩, ⟨#[34, 47, 34]⟩]
theorem strS_size : ∀ x ∈ strS, 1 ≤ x.size ∧ x.size ≤ 8 := by decide
set_option maxRecDepth 100000 in
theorem d_str (g : Nat) (cs : List UInt8) (s : Nat × Int) (w : World) (hc : Cur w g cs s) : Calls Try.prog 50 #[.pointer (some ⟨g, 0, none⟩)] w fun e w' => ∃ x, strS[(belowD cs 7 s).toNat]? = some x ∧ RetD w g cs (belowS cs 7 s) (.string x) e w' := by
  have hlt := hc.lt
  have hB : Below w.heap.size w (w.alloc (.cells (strS.map fun x => Value.string x).toArray 9)) := (Below.refl _ _).alloc (Nat.le_refl _) _
  have hcH := Lib.hid (hc.later hB)
  have hS := Lib.hid (StrsAt.made w strS 9)
  have hBH := Lib.hid hB
  clear hc hB
  go_enter Try.func50, Try.ntmps50
  go_wp2_with fail
  refine (d_pick g cs s _ _ _ strS _ rfl (by decide) (by decide) (by omega) hS.out hcH.out).mono ?_
  rintro e w1 ⟨x, hx, rfl, hc1, ha1⟩
  have hx := Lib.hid hx
  have hc1 := Lib.hid hc1
  have ha1 := Lib.hid ha1
  go_wp2_with fail
  go_ret
  exact ⟨x, hx.out, rfl, hc1.out, (Away.of_below hBH.out).trans ha1.out⟩
def ereS : List ByteArray := [⟨#[47, 97, 47]⟩, ⟨#[47, 94, 120, 43, 36, 47]⟩, ⟨#[47, 97, 92, 47, 98, 47]⟩, ⟨#[47, 61, 47]⟩, ⟨#[47, 32, 47]⟩, ⟨#[47, 91, 48, 45, 57, 93, 47]⟩]
theorem ereS_size : ∀ x ∈ ereS, 1 ≤ x.size ∧ x.size ≤ 8 := by decide
set_option maxRecDepth 100000 in
theorem d_ere (g : Nat) (cs : List UInt8) (s : Nat × Int) (w : World) (hc : Cur w g cs s) : Calls Try.prog 51 #[.pointer (some ⟨g, 0, none⟩)] w fun e w' => ∃ x, ereS[(belowD cs 6 s).toNat]? = some x ∧ RetD w g cs (belowS cs 6 s) (.string x) e w' := by
  have hlt := hc.lt
  have hB : Below w.heap.size w (w.alloc (.cells (ereS.map fun x => Value.string x).toArray 9)) := (Below.refl _ _).alloc (Nat.le_refl _) _
  have hcH := Lib.hid (hc.later hB)
  have hS := Lib.hid (StrsAt.made w ereS 9)
  have hBH := Lib.hid hB
  clear hc hB
  go_enter Try.func51, Try.ntmps51
  go_wp2_with fail
  refine (d_pick g cs s _ _ _ ereS _ rfl (by decide) (by decide) (by omega) hS.out hcH.out).mono ?_
  rintro e w1 ⟨x, hx, rfl, hc1, ha1⟩
  have hx := Lib.hid hx
  have hc1 := Lib.hid hc1
  have ha1 := Lib.hid ha1
  go_wp2_with fail
  go_ret
  exact ⟨x, hx.out, rfl, hc1.out, (Away.of_below hBH.out).trans ha1.out⟩
end Go.Proofs.Ytlabmboedjnpmaa
