/- The draws of texts to be scanned (walks). -/
import Derived.Test.YtdajhcammnlonaaDoorDraw3
namespace Go.Proofs.YtdajhcammnlonaaDoor
open Go.RowKit
set_option linter.unusedVariables false
theorem word_size2 : ∀ x ∈ wordL, 1 ≤ x.size ∧ x.size ≤ 8 := by decide
def bitS (a b c d : ByteArray) : List ByteArray := [a, b, c, d, ⟨#[101]⟩, ⟨#[46]⟩, ⟨#[34]⟩, ⟨#[47]⟩, ⟨#[92]⟩, ⟨#[43]⟩, ⟨#[45]⟩, ⟨#[61]⟩, ⟨#[33, 126]⟩, ⟨#[62, 62]⟩, ⟨#[32]⟩, ⟨#[10]⟩, ⟨#[53]⟩]
theorem bitS_size {a b c d z : ByteArray} (ha : a.size ≤ 8) (hb : b.size ≤ 8) (hc : c.size ≤ 8) (hd : d.size ≤ 8) (h : z ∈ bitS a b c d) : z.size ≤ 8 := by
  simp only [bitS, List.mem_cons, List.not_mem_nil, or_false] at h
  rcases h with rfl | rfl | rfl | rfl | rfl | rfl | rfl | rfl | rfl | rfl | rfl | rfl | rfl | rfl | rfl | rfl | rfl <;> first | assumption | decide
set_option maxRecDepth 100000 in
set_option maxHeartbeats 1000000 in
theorem d_bits (g : Nat) (cs : List UInt8) (s : Nat × Int) (w : World) (hc : Cur w g cs s) : Calls Tryd.prog 76 #[.pointer (some ⟨g, 0, none⟩)] w (RetStr w g cs fun x => x.size ≤ 40) := by
  have hcH := Lib.hid hc
  clear hc
  go_enter Tryd.func76, Tryd.ntmps76
  go_wp2_with fail
  refine (d_below _ _ _ _ _ (by omega) hcH.out).mono ?_
  rintro e w2 ⟨rfl, hc2, ha2⟩
  have hq := belowD_lt cs (show (0 : Int) < 5 by omega) s
  obtain ⟨q0, hq0⟩ : ∃ q : Nat, belowD cs 5 s = (q : Int) := Int.eq_ofNat_of_zero_le hq.1
  rw [hq0] at hq ⊢
  clear hq0
  have hc2 := Lib.hid hc2
  have ha2 := Lib.hid ha2
  go_wp2_with fail
  go_loopw [3, 4] (fun v x wr => ∃ (t : ByteArray) (q : Nat) (s' : Nat × Int), t.size + 8 * q ≤ 40 ∧ v = .string t ∧ x = .int .i64 q ∧ Hid (Cur wr g cs s') ∧ Hid (Away g w wr)) (fun _ x _ => (intOf x).toNat)
  case atStart => exact ⟨⟨#[]⟩, q0, _, by show 0 + _ ≤ _; omega, rfl, rfl, hc2, ha2⟩
  case round =>
    obtain ⟨t, q, s', ht, rfl, rfl, hc3, hA3⟩ := hrel
    by_cases h0 : q = 0
    · subst h0
      have ht := Lib.hid ht
      go_wp2_with fail
      go_ret
      exact ⟨t, s', by have := ht.out; omega, rfl, hc3.out, hA3.out⟩
    · obtain ⟨p, rfl⟩ : ∃ p, q = p + 1 := ⟨q - 1, by omega⟩
      go_wp2_with fail
      refine (d_num _ _ _ _ hc3.out).mono ?_
      rintro e w4 ⟨x1, hx1, rfl, hc4, ha4⟩
      have hx1 := Lib.hid (numS_size x1 (List.mem_of_getElem? hx1)).2
      have hA4 := Lib.hid (hA3.out.trans ha4)
      have hc4 := Lib.hid hc4
      clear ha4
      go_wp2_with fail
      refine (d_str _ _ _ _ hc4.out).mono ?_
      rintro e w5 ⟨x2, hx2, rfl, hc5, ha5⟩
      have hx2 := Lib.hid (strS_size x2 (List.mem_of_getElem? hx2)).2
      have hA5 := Lib.hid (hA4.out.trans ha5)
      have hc5 := Lib.hid hc5
      clear ha5
      go_wp2_with fail
      refine (d_ere _ _ _ _ hc5.out).mono ?_
      rintro e w6 ⟨x3, hx3, rfl, hc6, ha6⟩
      have hx3 := Lib.hid (ereS_size x3 (List.mem_of_getElem? hx3)).2
      have hA6 := Lib.hid (hA5.out.trans ha6)
      have hc6 := Lib.hid hc6
      clear ha6
      go_wp2_with fail
      refine (d_word _ _ _ _ hc6.out).mono ?_
      rintro e w7 ⟨x4, hx4, rfl, hc7, ha7⟩
      have hx4 := Lib.hid (word_size2 x4 (List.mem_of_getElem? hx4)).2
      have hgl := hc7.lt
      have hA7 := Lib.hid ((hA6.out.trans ha7).alloc (.cells ((bitS x1 x2 x3 x4).map fun x => Value.string x).toArray 9))
      have hc8 := Lib.hid (hc7.alloc (.cells ((bitS x1 x2 x3 x4).map fun x => Value.string x).toArray 9))
      have hS := Lib.hid (StrsAt.made w7 (bitS x1 x2 x3 x4) 9)
      clear ha7 hc7
      go_wp2_with fail
      refine (d_pick g cs _ _ _ _ (bitS x1 x2 x3 x4) _ rfl (by simp [bitS]) (by simp [bitS]) (by omega) hS.out hc8.out).mono ?_
      rintro e w9 ⟨z, hz, rfl, hc9, ha9⟩
      have hz := bitS_size hx1.out hx2.out hx3.out hx4.out (List.mem_of_getElem? hz)
      have hA9 := Lib.hid (hA7.out.trans ha9)
      have hc9 := Lib.hid hc9
      clear ha9 hgl
      go_wp2_with fail
      go_roundw
      case rel => exact ⟨_, p, _, by rw [ByteArray.size_append]; omega, rfl, rfl, hc9, hA9⟩
      case measure => simp [intOf]
set_option maxRecDepth 100000 in
set_option maxHeartbeats 1000000 in
theorem d_at (g : Nat) (cs : List UInt8) (s : Nat × Int) (w : World) (hc : Cur w g cs s) : Calls Tryd.prog 77 #[.pointer (some ⟨g, 0, none⟩)] w fun e w' => ∃ (x : ByteArray) (k : Int) (s' : Nat × Int), x.size ≤ 40 ∧ (-1 ≤ k ∧ k ≤ 60) ∧ RetD w g cs s' (.tuple #[.string x, .int .i64 k]) e w' := by
  have hcH := Lib.hid hc
  clear hc
  go_enter Tryd.func77, Tryd.ntmps77
  go_wp2_with fail
  refine (d_bits _ _ _ _ hcH.out).mono ?_
  rintro e w1 ⟨x, s1, hx, rfl, hc1, ha1⟩
  have hc1 := Lib.hid hc1
  have ha1 := Lib.hid ha1
  go_wp2_with fail
  refine (d_once _ _ _ _ _ (by omega) hc1.out).mono ?_
  rintro e w2 ⟨rfl, hc2, ha2⟩
  have ha2 := Lib.hid (ha1.out.trans ha2)
  have hc2 := Lib.hid hc2
  obtain ⟨B, hB⟩ : ∃ B, (belowD cs 2 s1 == 0) = B := ⟨_, rfl⟩
  rw [hB]
  clear hB
  cases B
  · have hq := belowD_lt cs (show (0 : Int) < (x.size : Int) + 3 by omega) (belowS cs 2 s1)
    obtain ⟨q, hq0⟩ : ∃ q, belowD cs ((x.size : Int) + 3) (belowS cs 2 s1) = q := ⟨_, rfl⟩
    rw [hq0] at hq
    have hq0 := Lib.hid hq0
    go_wp2_with fail
    refine (d_below _ _ _ _ _ (by omega) hc2.out).mono ?_
    rintro e w3 ⟨rfl, hc3, ha3⟩
    rw [hq0.out]
    have ha3 := Lib.hid (ha2.out.trans ha3)
    have hc3 := Lib.hid hc3
    go_wp2_with fail
    go_ret2
    exact ⟨x, q - 1, _, hx, by omega, rfl, hc3.out, ha3.out⟩
  · go_wp2_with fail
    go_ret2
    exact ⟨x, 0, _, hx, by omega, rfl, hc2.out, ha2.out⟩
set_option maxRecDepth 100000 in
set_option maxHeartbeats 1000000 in
theorem d_drawNumEnd (v : Value) (cs : List UInt8) (w : World) (hl : cs.length ≤ 1048576) (h : BytesIn w w.heap.size v cs) : Calls Tryd.prog 20 #[v] w fun e w' => ∃ (x : ByteArray) (k : Int), x.size ≤ 60 ∧ (-1 ≤ k ∧ k ≤ 60) ∧ e = .returned (.tuple #[.string x, .int .i64 k]) ∧ Below w.heap.size w w' := by
  have hB := Lib.hid h
  obtain ⟨A, c, rfl, r⟩ := h
  clear r
  go_enter Tryd.func20, Tryd.ntmps20
  go_wp2_with fail
  refine (d_new _ cs _ hl hB.out).mono ?_
  rintro e w1 ⟨g, s, rfl, hg, hc1, hb1⟩
  have hc1 := Lib.hid hc1
  have hb1 := Lib.hid hb1
  go_wp2_with fail
  refine (d_once _ _ _ _ _ (by omega) hc1.out).mono ?_
  rintro e w2 ⟨rfl, hc2, ha2⟩
  have hb2 := Lib.hid (ha2.below_then hb1.out hg hb1.out.size)
  have hc2 := Lib.hid hc2
  clear ha2
  obtain ⟨B, hB⟩ : ∃ B, (belowD cs 2 s == 0) = B := ⟨_, rfl⟩
  rw [hB]
  clear hB
  cases B
  · go_wp2_with fail
    refine (d_at _ _ _ _ hc2.out).mono ?_
    rintro e w3 ⟨x, k, s3, hx, hk, rfl, hc3, ha3⟩
    have hb3 := Lib.hid (ha3.below_then hb2.out hg hb2.out.size)
    have hx := Lib.hid hx
    have hk := Lib.hid hk
    clear ha3 hc3
    go_wp2_with fail
    go_ret2
    exact ⟨x, k, by have := hx.out; omega, hk.out, rfl, hb3.out⟩
  · go_wp2_with fail
    refine (d_num _ _ _ _ hc2.out).mono ?_
    rintro e w3 ⟨x, hx, rfl, hc3, ha3⟩
    have hx := (numS_size x (List.mem_of_getElem? hx)).2
    have hb3 := Lib.hid (ha3.below_then hb2.out hg hb2.out.size)
    have hc3 := Lib.hid hc3
    clear ha3
    go_wp2_with fail
    refine (d_bits _ _ _ _ hc3.out).mono ?_
    rintro e w4 ⟨y, s4, hy, rfl, hc4, ha4⟩
    have hb4 := Lib.hid (ha4.below_then hb3.out hg hb3.out.size)
    clear ha4 hc4
    go_wp2_with fail
    go_ret2
    exact ⟨x ++ y, 0, by rw [ByteArray.size_append]; omega, by omega, rfl, hb4.out⟩
set_option maxRecDepth 100000 in
set_option maxHeartbeats 1000000 in
theorem d_drawStrEnd (v : Value) (cs : List UInt8) (w : World) (hl : cs.length ≤ 1048576) (h : BytesIn w w.heap.size v cs) : Calls Tryd.prog 24 #[v] w fun e w' => ∃ (x : ByteArray) (k : Int), x.size ≤ 60 ∧ (-1 ≤ k ∧ k ≤ 60) ∧ e = .returned (.tuple #[.string x, .int .i64 k]) ∧ Below w.heap.size w w' := by
  have hB := Lib.hid h
  obtain ⟨A, c, rfl, r⟩ := h
  clear r
  go_enter Tryd.func24, Tryd.ntmps24
  go_wp2_with fail
  refine (d_new _ cs _ hl hB.out).mono ?_
  rintro e w1 ⟨g, s, rfl, hg, hc1, hb1⟩
  have hc1 := Lib.hid hc1
  have hb1 := Lib.hid hb1
  go_wp2_with fail
  refine (d_once _ _ _ _ _ (by omega) hc1.out).mono ?_
  rintro e w2 ⟨rfl, hc2, ha2⟩
  have hb2 := Lib.hid (ha2.below_then hb1.out hg hb1.out.size)
  have hc2 := Lib.hid hc2
  clear ha2
  obtain ⟨B, hB⟩ : ∃ B, (belowD cs 2 s == 0) = B := ⟨_, rfl⟩
  rw [hB]
  clear hB
  cases B
  · go_wp2_with fail
    refine (d_at _ _ _ _ hc2.out).mono ?_
    rintro e w3 ⟨x, k, s3, hx, hk, rfl, hc3, ha3⟩
    have hb3 := Lib.hid (ha3.below_then hb2.out hg hb2.out.size)
    have hx := Lib.hid hx
    have hk := Lib.hid hk
    clear ha3 hc3
    go_wp2_with fail
    go_ret2
    exact ⟨x, k, by have := hx.out; omega, hk.out, rfl, hb3.out⟩
  · go_wp2_with fail
    refine (d_str _ _ _ _ hc2.out).mono ?_
    rintro e w3 ⟨x, hx, rfl, hc3, ha3⟩
    have hx := (strS_size x (List.mem_of_getElem? hx)).2
    have hb3 := Lib.hid (ha3.below_then hb2.out hg hb2.out.size)
    have hc3 := Lib.hid hc3
    clear ha3
    go_wp2_with fail
    refine (d_bits _ _ _ _ hc3.out).mono ?_
    rintro e w4 ⟨y, s4, hy, rfl, hc4, ha4⟩
    have hb4 := Lib.hid (ha4.below_then hb3.out hg hb3.out.size)
    clear ha4 hc4
    go_wp2_with fail
    go_ret2
    exact ⟨x ++ y, 0, by rw [ByteArray.size_append]; omega, by omega, rfl, hb4.out⟩
set_option maxRecDepth 100000 in
set_option maxHeartbeats 1000000 in
theorem d_drawNameEnd (v : Value) (cs : List UInt8) (w : World) (hl : cs.length ≤ 1048576) (h : BytesIn w w.heap.size v cs) : Calls Tryd.prog 27 #[v] w fun e w' => ∃ (x : ByteArray) (k : Int), x.size ≤ 60 ∧ (-1 ≤ k ∧ k ≤ 60) ∧ e = .returned (.tuple #[.string x, .int .i64 k]) ∧ Below w.heap.size w w' := by
  have hB := Lib.hid h
  obtain ⟨A, c, rfl, r⟩ := h
  clear r
  go_enter Tryd.func27, Tryd.ntmps27
  go_wp2_with fail
  refine (d_new _ cs _ hl hB.out).mono ?_
  rintro e w1 ⟨g, s, rfl, hg, hc1, hb1⟩
  have hc1 := Lib.hid hc1
  have hb1 := Lib.hid hb1
  go_wp2_with fail
  refine (d_once _ _ _ _ _ (by omega) hc1.out).mono ?_
  rintro e w2 ⟨rfl, hc2, ha2⟩
  have hb2 := Lib.hid (ha2.below_then hb1.out hg hb1.out.size)
  have hc2 := Lib.hid hc2
  clear ha2
  obtain ⟨B, hB⟩ : ∃ B, (belowD cs 2 s == 0) = B := ⟨_, rfl⟩
  rw [hB]
  clear hB
  cases B
  · go_wp2_with fail
    refine (d_at _ _ _ _ hc2.out).mono ?_
    rintro e w3 ⟨x, k, s3, hx, hk, rfl, hc3, ha3⟩
    have hb3 := Lib.hid (ha3.below_then hb2.out hg hb2.out.size)
    have hx := Lib.hid hx
    have hk := Lib.hid hk
    clear ha3 hc3
    go_wp2_with fail
    go_ret2
    exact ⟨x, k, by have := hx.out; omega, hk.out, rfl, hb3.out⟩
  · go_wp2_with fail
    refine (d_word _ _ _ _ hc2.out).mono ?_
    rintro e w3 ⟨x, hx, rfl, hc3, ha3⟩
    have hx := (word_size2 x (List.mem_of_getElem? hx)).2
    have hb3 := Lib.hid (ha3.below_then hb2.out hg hb2.out.size)
    have hc3 := Lib.hid hc3
    clear ha3
    go_wp2_with fail
    refine (d_bits _ _ _ _ hc3.out).mono ?_
    rintro e w4 ⟨y, s4, hy, rfl, hc4, ha4⟩
    have hb4 := Lib.hid (ha4.below_then hb3.out hg hb3.out.size)
    clear ha4 hc4
    go_wp2_with fail
    go_ret2
    exact ⟨x ++ y, 0, by rw [ByteArray.size_append]; omega, by omega, rfl, hb4.out⟩
end Go.Proofs.YtdajhcammnlonaaDoor
