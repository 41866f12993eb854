/- The draws of kinds and names; whether a code is too long (walks). -/
import Derived.Test.YtdajhcammnlonaaDoorDraw3
import Derived.Test.YtdajhcammnlonaaDoorTabs
namespace Go.Proofs.YtdajhcammnlonaaDoor
open Go.RowKit
set_option linter.unusedVariables false
theorem StrsAt.of_tab {w : World} {b : Nat} {l : List (List UInt8)} (h : TabAt w b l) : StrsAt w b (l.map bs) :=
  ⟨h.1, fun i x hx => by
    rw [List.getElem?_map] at hx
    cases hy : l[i]? with
    | none => rw [hy] at hx; cases hx
    | some y =>
      rw [hy] at hx
      obtain rfl := Option.some.inj hx
      exact h.2 i y hy⟩
theorem l_big (v : Value) (l : List UInt8) (w : World) (h : BytesIn w w.heap.size v l) : Calls Tryd.prog 9 #[v] w fun e w' => e = .returned (.bool (decide (1048576 < l.length))) ∧ w = w' := by
  obtain ⟨A, c, rfl, hlc, hcm, _⟩ := h
  unfold maxLen at hcm
  go_enter Tryd.func9, Tryd.ntmps9
  go_wp2_with fail
  go_ret
  exact ⟨ret_bool (by first | rfl | (rw [decide_eq_decide]; omega)), rfl⟩
theorem d_kind (g : Nat) (cs : List UInt8) (s : Nat × Int) (w : World) (hc : Cur w g cs s) : Calls Tryd.prog 54 #[.pointer (some ⟨g, 0, none⟩)] w fun e w' => ∃ k : Int, (-1 ≤ k ∧ k ≤ 70) ∧ RetD w g cs (belowS cs 72 s) (.int .i64 k) e w' := by
  have hcH := Lib.hid hc
  clear hc
  have hq := belowD_lt cs (show (0 : Int) < 72 by omega) s
  obtain ⟨q, hq0⟩ : ∃ q, belowD cs 72 s = q := ⟨_, rfl⟩
  rw [hq0] at hq
  have hq0 := Lib.hid hq0
  go_enter Tryd.func54, Tryd.ntmps54
  go_wp2_with fail
  refine (d_below _ _ _ _ _ (by omega) hcH.out).mono ?_
  rintro e w1 ⟨rfl, hc1, ha1⟩
  rw [hq0.out]
  have hc1 := Lib.hid hc1
  have ha1 := Lib.hid ha1
  go_wp2_with fail
  go_ret
  exact ⟨q - 1, by omega, rfl, hc1.out, ha1.out⟩
theorem d_drawSpellOf (v : Value) (cs : List UInt8) (w : World) (hl : cs.length ≤ 1048576) (h : BytesIn w w.heap.size v cs) : Calls Tryd.prog 10 #[v] w fun e w' => ∃ k : Int, (-1 ≤ k ∧ k ≤ 70) ∧ e = .returned (.int .i64 k) ∧ Below w.heap.size w w' := by
  have hB := Lib.hid h
  obtain ⟨A, c, rfl, r⟩ := h
  clear r
  go_enter Tryd.func10, Tryd.ntmps10
  go_wp2_with fail
  refine (d_new _ cs _ hl hB.out).mono ?_
  rintro e w1 ⟨g, s, rfl, hg, hc1, hb1⟩
  have hc1 := Lib.hid hc1
  have hb1 := Lib.hid hb1
  go_wp2_with fail
  refine (d_kind _ _ _ _ hc1.out).mono ?_
  rintro e w2 ⟨k, hk, rfl, hc2, ha2⟩
  have hb2 := Lib.hid (ha2.below_then hb1.out hg hb1.out.size)
  clear hc2 ha2
  go_wp2_with fail
  go_ret
  exact ⟨k, hk, rfl, hb2.out⟩
def shapeS (x y : ByteArray) : List ByteArray := [⟨#[]⟩, ⟨#[49, 97]⟩, ⟨#[97]⟩, ⟨#[97, 98, 99, 100, 101, 102, 103, 104, 105, 106, 107, 108]⟩, ⟨#[97, 98, 99, 100, 101, 102, 103, 104, 105, 106, 107, 108, 109]⟩, ⟨#[97, 45, 98]⟩, ⟨#[95]⟩, ⟨#[97, 32, 98]⟩, x, y]
theorem word_size : ∀ x ∈ wordL, 1 ≤ x.size ∧ x.size ≤ 5 := by decide
theorem shapeS_size {x y z : ByteArray} (hx : x.size ≤ 13) (hy : y.size ≤ 13) (h : z ∈ shapeS x y) : z.size ≤ 13 := by
  simp only [shapeS, List.mem_cons, List.not_mem_nil, or_false] at h
  rcases h with rfl | rfl | rfl | rfl | rfl | rfl | rfl | rfl | rfl | rfl <;> first | assumption | decide
set_option maxRecDepth 100000 in
set_option maxHeartbeats 1000000 in
theorem d_drawNameShape (v : Value) (cs : List UInt8) (w : World) (hl : cs.length ≤ 1048576) (h : BytesIn w w.heap.size v cs) : Calls Tryd.prog 67 #[v] w fun e w' => ∃ x : ByteArray, x.size ≤ 13 ∧ e = .returned (.string x) ∧ Below w.heap.size w w' := by
  have hB := Lib.hid h
  obtain ⟨A, c, rfl, r⟩ := h
  clear r
  go_enter Tryd.func67, Tryd.ntmps67
  go_wp2_with fail
  refine (d_new _ cs _ hl hB.out).mono ?_
  rintro e w1 ⟨g, s, rfl, hg, hc1, hb1⟩
  have hc1 := Lib.hid hc1
  have hb1 := Lib.hid hb1
  go_wp2_with fail
  refine (d_word _ _ _ _ hc1.out).mono ?_
  rintro e w2 ⟨x, hx, rfl, hc2, ha2⟩
  have hx := Lib.hid (show x.size ≤ 13 by have := word_size x (List.mem_of_getElem? hx); omega)
  have hb2 := Lib.hid (ha2.below_then hb1.out hg hb1.out.size)
  have hc2 := Lib.hid hc2
  clear ha2
  go_wp2_with fail
  refine (d_text _ _ _ 4 _ (by omega) hc2.out).mono ?_
  rintro e w3 ⟨y, s3, hy, rfl, hc3, ha3⟩
  have hy := Lib.hid (show y.size ≤ 13 by omega)
  have hb3 := Lib.hid (ha3.below_then hb2.out hg hb2.out.size)
  have hgl := hc3.lt
  have hc3 := Lib.hid (hc3.alloc (.cells ((shapeS x y).map fun x => Value.string x).toArray 9))
  have hS := Lib.hid (StrsAt.made w3 (shapeS x y) 9)
  have hb4 := Lib.hid (hb3.out.alloc hb3.out.size (.cells ((shapeS x y).map fun x => Value.string x).toArray 9))
  clear ha3
  go_wp2_with fail
  refine (d_pick g cs _ _ _ _ (shapeS x y) _ rfl (by simp [shapeS]) (by simp [shapeS]) (by omega) hS.out hc3.out).mono ?_
  rintro e w5 ⟨z, hz, rfl, hc5, ha5⟩
  have hz := Lib.hid (shapeS_size hx.out hy.out (List.mem_of_getElem? hz))
  have hb5 := Lib.hid (ha5.below_then hb4.out hg hb4.out.size)
  clear hc5 ha5
  go_wp2_with fail
  go_ret
  exact ⟨z, hz.out, rfl, hb5.out⟩
theorem four_size {x y z t r : ByteArray} (hx : x.size ≤ 16) (hy : y.size ≤ 16) (hz : z.size ≤ 16) (ht : t.size ≤ 16) (h : r ∈ [x, y, z, t]) : r.size ≤ 16 := by
  simp only [List.mem_cons, List.not_mem_nil, or_false] at h
  rcases h with rfl | rfl | rfl | rfl <;> assumption
theorem kw_size : ∀ x ∈ kwL.map bs, x.size ≤ 16 := by decide
theorem bi_size : ∀ x ∈ biL.map bs, x.size ≤ 16 := by decide
set_option maxRecDepth 100000 in
set_option maxHeartbeats 1000000 in
theorem d_drawNameOk (v : Value) (cs : List UInt8) (w : World) (hl : cs.length ≤ 1048576) (h : BytesIn w w.heap.size v cs) : Calls Tryd.prog 16 #[v] w fun e w' => ∃ x : ByteArray, x.size ≤ 16 ∧ e = .returned (.string x) ∧ Below w.heap.size w w' := by
  have hB := Lib.hid h
  obtain ⟨A, c, rfl, r⟩ := h
  clear r
  go_enter Tryd.func16, Tryd.ntmps16
  go_wp2_with fail
  refine (d_new _ cs _ hl hB.out).mono ?_
  rintro e w1 ⟨g, s, rfl, hg, hc1, hb1⟩
  have hc1 := Lib.hid hc1
  have hb1 := Lib.hid hb1
  go_wp2_with fail
  refine (d_word _ _ _ _ hc1.out).mono ?_
  rintro e w2 ⟨x, hx, rfl, hc2, ha2⟩
  have hx := Lib.hid (show x.size ≤ 16 by have := word_size x (List.mem_of_getElem? hx); omega)
  have hb2 := Lib.hid (ha2.below_then hb1.out hg hb1.out.size)
  have hc2 := Lib.hid hc2
  clear ha2
  go_wp2_with fail
  refine (s_words _).mono ?_
  rintro e w3 ⟨rfl, ht3, hk3⟩
  have hgl := hc2.out.lt
  have hc3 := Lib.hid (hc2.out.later hk3)
  have hb3 := Lib.hid (hb2.out.trans (hk3.mono hb2.out.size))
  have ht3 := Lib.hid ht3
  clear hk3
  go_wp2_with fail
  refine (d_pick g cs _ _ _ _ (kwL.map bs) _ (by decide) (by decide) (by decide) (by omega) (StrsAt.of_tab ht3.out) hc3.out).mono ?_
  rintro e w4 ⟨y, hy, rfl, hc4, ha4⟩
  have hy := Lib.hid (kw_size y (List.mem_of_getElem? hy))
  have hb4 := Lib.hid (ha4.below_then hb3.out hg hb3.out.size)
  have hc4 := Lib.hid hc4
  clear ha4 hgl
  go_wp2_with fail
  refine (s_builtins _).mono ?_
  rintro e w5 ⟨rfl, ht5, hk5⟩
  have hgl := hc4.out.lt
  have hc5 := Lib.hid (hc4.out.later hk5)
  have hb5 := Lib.hid (hb4.out.trans (hk5.mono hb4.out.size))
  have ht5 := Lib.hid ht5
  clear hk5
  go_wp2_with fail
  refine (d_pick g cs _ _ _ _ (biL.map bs) _ (by decide) (by decide) (by decide) (by omega) (StrsAt.of_tab ht5.out) hc5.out).mono ?_
  rintro e w6 ⟨z, hz, rfl, hc6, ha6⟩
  have hz := Lib.hid (bi_size z (List.mem_of_getElem? hz))
  have hb6 := Lib.hid (ha6.below_then hb5.out hg hb5.out.size)
  have hc6 := Lib.hid hc6
  clear ha6 hgl
  go_wp2_with fail
  refine (d_drawNameShape _ cs _ hl ((hB.out.keep hb6.out (Nat.le_refl _)).more hb6.out.size)).mono ?_
  rintro e w7 ⟨t, ht, rfl, hk7⟩
  have ht := Lib.hid (show t.size ≤ 16 by omega)
  have hc7 := Lib.hid (hc6.out.later hk7)
  have hb7 := Lib.hid (hb6.out.trans (hk7.mono hb6.out.size))
  have hgl := hc7.out.lt
  have hc8 := Lib.hid (hc7.out.alloc (.cells (([x, y, z, t] : List ByteArray).map fun x => Value.string x).toArray 9))
  have hS := Lib.hid (StrsAt.made w7 [x, y, z, t] 9)
  have hb8 := Lib.hid (hb7.out.alloc hb7.out.size (.cells (([x, y, z, t] : List ByteArray).map fun x => Value.string x).toArray 9))
  clear hk7
  go_wp2_with fail
  refine (d_pick g cs _ _ _ _ [x, y, z, t] _ rfl (by simp) (by simp) (by omega) hS.out hc8.out).mono ?_
  rintro e w9 ⟨r, hr, rfl, hc9, ha9⟩
  have hr := Lib.hid (four_size hx.out hy.out hz.out ht.out (List.mem_of_getElem? hr))
  have hb9 := Lib.hid (ha9.below_then hb8.out hg hb8.out.size)
  clear hc9 ha9
  go_wp2_with fail
  go_ret
  exact ⟨r, hr.out, rfl, hb9.out⟩
end Go.Proofs.YtdajhcammnlonaaDoor
