/- The functions of the laws over tokens (contracts). -/
import Derived.Test.YtnidfoboiddhfaaDoorNodeEq
import Derived.Test.YtnidfoboiddhfaaDoorTokOne
import Derived.Test.YtnidfoboiddhfaaDoorTokRow
namespace Go.Proofs.YtnidfoboiddhfaaDoor
open Go.RowKit
set_option linter.unusedVariables false

set_option maxRecDepth 100000 in
set_option maxHeartbeats 400000 in
theorem l_szTokens (v : Value) (l : List PTok) (left : Int) (w : World) (h0 : 0 ≤ left) (h1 : left ≤ 1048576) (h : ToksIn w w.heap.size v l) :
    Calls Tryd.prog 24 #[v, .int .i64 left] w fun e w' => e = .returned (.int .i64 (subB left (toksBulk l))) ∧ Below w.heap.size w w' := by
  obtain ⟨A, c, rfl, hlc, hcm, hcell, hsz⟩ := h
  unfold maxLen at hcm
  by_cases hl : left < l.length
  · have hs : Hid (subB left (toksBulk l) = -1) := by show _ = _; rw [subB_lt]; unfold toksBulk; omega
    go_enter Tryd.func24, Tryd.ntmps24
    go_wp2_with fail
    go_ret
    exact ⟨ret_int hs.out.symm, Below.refl _ _⟩
  · obtain ⟨n, hn⟩ : ∃ n, l.length = n := ⟨_, rfl⟩
    rw [hn] at hl hlc hcell ⊢
    have hnH := Lib.hid hn
    clear hn
    go_enter Tryd.func24, Tryd.ntmps24
    go_wp2_with fail
    go_loopw [1, 5] (fun x i wr => ∃ (j : Nat) (z : Int), j ≤ n ∧ (0 ≤ z ∧ z ≤ 1048576) ∧ Hid (z = left - n - tokSum (l.take j)) ∧ x = .int .i64 z ∧ i = .int .i64 j ∧ Below w.heap.size w wr) (fun _ i _ => (n - (intOf i).toNat))
    case atStart => exact ⟨0, left - n, by omega, by omega, by show _ = _; simp [tokSum], by go_num, by go_num, Below.refl _ _⟩
    case round =>
      obtain ⟨j, z, hj, hz, hd, rfl, rfl, hb⟩ := hrel
      by_cases hlt : j < n
      · obtain ⟨nd, hnd⟩ : ∃ nd, l[j]? = some nd := ⟨l[j]'(by rw [hnH.out]; exact hlt), List.getElem?_eq_getElem _⟩
        have hmem : nd ∈ l := List.mem_of_getElem? hnd
        obtain ⟨_, ht, _⟩ := hsz nd hmem
        obtain ⟨b, off, hA, hlt2, hc⟩ := hcell (by omega)
        subst hA
        obtain ⟨e0, e1, e2⟩ := hc j nd hnd
        have hk : ∀ o, wr.cell? ⟨b, o, none⟩ = w.cell? ⟨b, o, none⟩ := fun o => hb.cell (p := ⟨b, o, none⟩) hlt2
        rw [← hk] at e0 e1 e2
        clear hk
        have hH := Lib.hid hnd
        clear hnd hcell hsz hc
        by_cases hlast : z < nd.text.size
        · have hs : Hid (subB left (toksBulk l) = -1) := by
            show _ = _
            rw [subB_lt]
            have h1 := tok_take hH.out
            have h2 := tok_take_le l (j + 1)
            have h3 := hd.out
            have h4 := hnH.out
            unfold toksBulk
            omega
          have hx : subB z nd.text.size = -1 := subB_lt hlast
          go_wp2_with (go_at_call 20; refine (l_szToken _ _ _ _ _ hz.1 hz.2 ht).mono ?_; rintro e w1 ⟨rfl, hb1⟩)
          go_ret
          exact ⟨ret_int hs.out.symm, hb.trans (hb1.mono hb.size)⟩
        · have hst : Hid (z - nd.text.size = left - n - tokSum (l.take (j + 1))) := by
            show _ = _
            have h1 := tok_take hH.out
            have h3 := hd.out
            rw [h1]
            omega
          have hx : subB z nd.text.size = z - (nd.text.size : Int) := subB_ge hlast
          obtain ⟨q, hq⟩ : ∃ q : Int, z - (nd.text.size : Int) = q := ⟨_, rfl⟩
          rw [hq] at hx hst
          have hq0 : 0 ≤ q ∧ q ≤ 1048576 := by omega
          have hqb : decide (q < 0) = false := by simp; omega
          clear hq hlast
          go_wp2_with (go_at_call 20; refine (l_szToken _ _ _ _ _ hz.1 hz.2 ht).mono ?_; rintro e w1 ⟨rfl, hb1⟩)
          go_roundw
          case rel => exact ⟨j + 1, q, by omega, hq0, hst, rfl, by go_num, hb.trans (hb1.mono hb.size)⟩
          case measure => simp [intOf]; omega
      · obtain rfl : j = n := by omega
        have hs : Hid (subB left (toksBulk l) = z) := by
          show _ = _
          have h3 := hd.out
          have h4 := hnH.out
          rw [List.take_of_length_le (by omega)] at h3
          rw [subB_ge (by unfold toksBulk; omega)]
          unfold toksBulk
          omega
        go_wp2_with fail
        go_ret
        exact ⟨ret_int hs.out.symm, hb⟩
theorem l_eqToken (k : Int) (t : ByteArray) (p : Int) (w : World) (ht : t.size ≤ maxLen) :
    Calls Tryd.prog 50 #[.agg #[.int .i64 k, .string t, .int .i64 p], .agg #[.int .i64 k, .string t, .int .i64 p]] w (RetTrue w) := by
  go_enter Tryd.func50, Tryd.ntmps50
  go_wp2_with fail
  go_ret
  exact ⟨rfl, ((Below.refl _ _).alloc (Nat.le_refl _) _).alloc (by simp) _⟩

def RetToks (w : World) (l : List PTok) (e : Ending) (w' : World) : Prop := ∃ v, e = .returned v ∧ ToksIn w' w'.heap.size v l ∧ FromOn w.heap.size v ∧ Below w.heap.size w w'
set_option maxRecDepth 100000 in
set_option maxHeartbeats 1000000 in
theorem l_toTokens (v : Value) (l : List PTok) (w : World) (hl : toksBulk l ≤ 1048576) (h : ToksIn w w.heap.size v l) : Calls Tryd.prog 26 #[v] w (RetToks w l) := by
  obtain ⟨A, c, rfl, hlc, hcm, hcell, hsz⟩ := h
  obtain ⟨n, hn⟩ : ∃ n, l.length = n := ⟨_, rfl⟩
  have hnl : n ≤ 1048576 := by unfold toksBulk at hl; omega
  clear hl
  rw [hn] at hlc hcell ⊢
  have hnH := Lib.hid hn
  clear hn
  obtain ⟨i0, hi, hz0, hz1, hz2⟩ := info_parts info_tok
  have hmk := mk_slice (P := Tryd.prog) 42 36 i0 _ Tryd.underlying42 hi hz0 n (by rw [hz2]; omega) (by omega)
  rw [hz1] at hmk
  clear hi hz0 hz1 hz2
  go_enter Tryd.func26, Tryd.ntmps26
  go_wp2_with fail
  clear hmk
  go_loopw [4] (fun i wr => ∃ (j : Nat) (cs : Array Value), j ≤ n ∧ Hid (cs.size = n * 3 ∧ FilledT cs j l) ∧ i = .int .i64 j ∧ Has wr w.heap.size 36 cs ∧ Below w.heap.size w wr) (fun i _ => (n - (intOf i).toNat))
  case atStart => exact ⟨0, _, by omega, ⟨by simp [size_madeCells], fun t x ht => by omega⟩, by go_num, Has.made _ _ _, (Below.refl _ _).alloc (Nat.le_refl _) _⟩
  case round =>
    obtain ⟨j, cs, hj, hd, rfl, hh, hb⟩ := hrel
    by_cases hlt : j < n
    · obtain ⟨nd, hnd⟩ : ∃ nd, l[j]? = some nd := ⟨l[j]'(by rw [hnH.out]; exact hlt), List.getElem?_eq_getElem _⟩
      obtain ⟨b, off, hA, hlt2, hc⟩ := hcell (by omega)
      subst hA
      obtain ⟨e0, e1, e2⟩ := hc j nd hnd
      have hk : ∀ o, wr.cell? ⟨b, o, none⟩ = w.cell? ⟨b, o, none⟩ := fun o => hb.cell (p := ⟨b, o, none⟩) hlt2
      rw [← hk] at e0 e1 e2
      clear hk
      have hst := Lib.hid (hd.out.2.step hnd (by rw [hnH.out]; exact hd.out.1.symm))
      clear hnd hc hcell hsz
      go_wp2_with fail
      refine (l_toToken _ _ _ _).mono ?_
      rintro e w2 ⟨rfl, hb2⟩
      have hlt2 := Lib.hid hlt2
      have hb3 : Below w.heap.size w w2 := hb.trans (hb2.mono hb.size)
      have hh2 := hh.below hb2 hh.lt
      obtain ⟨u0, y0⟩ := hh2.there (i := j * 3) (by rw [hd.out.1]; omega)
      obtain ⟨u1, y1⟩ := hh2.there (i := j * 3 + 1) (by rw [hd.out.1]; omega)
      obtain ⟨u2, y2⟩ := hh2.there (i := j * 3 + 2) (by rw [hd.out.1]; omega)
      have z0 := hh2.free (j * 3)
      have z1 := hh2.free (j * 3 + 1)
      have z2 := hh2.free (j * 3 + 2)
      go_wp2_with fail
      go_roundw
      case rel => exact ⟨j + 1, _, by omega, ⟨by rw [put3_size]; exact hd.out.1, hst.out⟩, by go_num, hh2.set3 _ _ _ _, below_set3 hb3 (Nat.le_refl _) _ _ _ _⟩
      case measure => simp [intOf]; omega
    · obtain rfl : j = n := by omega
      have hfin : ToksIn wr wr.heap.size (.slice (some ⟨w.heap.size, 0, none⟩) j j) l := by
        refine ⟨_, _, by rw [hnH.out], by rw [hnH.out]; exact Nat.le_refl _, by unfold maxLen; omega, fun hp => ⟨w.heap.size, 0, rfl, hh.lt, fun i x hix => ?_⟩, hsz⟩
        have hij : i < j := by have := (List.getElem?_eq_some_iff.1 hix).1; have := hnH.out; omega
        obtain ⟨e0, e1, e2⟩ := hd.out.2 i x hij hix
        simp only [Nat.zero_add]
        exact ⟨hh.get e0, hh.get e1, hh.get e2⟩
      have hfin := Lib.hid hfin
      clear hcell hsz
      go_wp2_with fail
      go_ret
      exact ⟨_, rfl, hfin.out, fun k hk => by obtain rfl := Option.some.inj hk; exact Nat.le_refl _, hb⟩
set_option maxRecDepth 100000 in
set_option maxHeartbeats 1000000 in
theorem l_eqTokens (v1 v2 : Value) (l : List PTok) (w : World) (h1 : ToksIn w w.heap.size v1 l) (h2 : ToksIn w w.heap.size v2 l) : Calls Tryd.prog 28 #[v1, v2] w (RetTrue w) := by
  obtain ⟨A1, c1, rfl, hlc1, hcm1, hcell1, hsz⟩ := h1
  obtain ⟨A2, c2, rfl, hlc2, hcm2, hcell2, _⟩ := h2
  unfold maxLen at hcm1 hcm2
  obtain ⟨n, hn⟩ : ∃ n, l.length = n := ⟨_, rfl⟩
  rw [hn] at hlc1 hlc2 hcell1 hcell2 ⊢
  have hnH := Lib.hid hn
  clear hn
  go_enter Tryd.func28, Tryd.ntmps28
  go_wp2_with fail
  go_loopw [5] (fun i wr => ∃ (j : Nat), j ≤ n ∧ i = .int .i64 j ∧ Below w.heap.size w wr) (fun i _ => (n - (intOf i).toNat))
  case atStart => exact ⟨0, by omega, by go_num, Below.refl _ _⟩
  case round =>
    obtain ⟨j, hj, rfl, hb⟩ := hrel
    by_cases hlt : j < n
    · obtain ⟨nd, hnd⟩ : ∃ nd, l[j]? = some nd := ⟨l[j]'(by rw [hnH.out]; exact hlt), List.getElem?_eq_getElem _⟩
      obtain ⟨_, ht, _⟩ := hsz nd (List.mem_of_getElem? hnd)
      obtain ⟨b1, o1, hA1, hl1, hc1⟩ := hcell1 (by omega)
      obtain ⟨b2, o2, hA2, hl2, hc2⟩ := hcell2 (by omega)
      subst hA1 hA2
      obtain ⟨e0, e1, e2⟩ := hc1 j nd hnd
      obtain ⟨f0, f1, f2⟩ := hc2 j nd hnd
      have hk1 : ∀ o, wr.cell? ⟨b1, o, none⟩ = w.cell? ⟨b1, o, none⟩ := fun o => hb.cell (p := ⟨b1, o, none⟩) hl1
      have hk2 : ∀ o, wr.cell? ⟨b2, o, none⟩ = w.cell? ⟨b2, o, none⟩ := fun o => hb.cell (p := ⟨b2, o, none⟩) hl2
      rw [← hk1] at e0 e1 e2
      rw [← hk2] at f0 f1 f2
      have hxH := Lib.hid hnd
      have hs1 := Lib.hid hl1
      have hs2 := Lib.hid hl2
      have hszH := Lib.hid hsz
      clear hnd hc1 hc2 hcell1 hcell2 hk1 hk2 hl1 hl2 hsz
      go_wp2_with fail
      go_still_tail 8, (by kernel_rfl)
      change wpList _ _ _ _ _ wr.drew
      have hbd : Below w.heap.size w wr.drew := below_drewN hb 1
      clear hb e0 e1 e2 f0 f1 f2
      generalize wr.drew = w2 at hbd ⊢
      go_wp2_with fail
      refine (l_eqToken _ _ _ _ ht).mono ?_
      rintro e w3 ⟨rfl, hb3⟩
      have hb4 := hbd.trans (hb3.mono hbd.size)
      go_wp2_with fail
      go_roundw
      case rel => exact ⟨j + 1, by omega, by go_num, hb4⟩
      case measure => simp [intOf]; omega
    · obtain rfl : j = n := by omega
      clear hcell1 hcell2 hsz
      go_wp2_with fail
      go_ret
      exact ⟨rfl, hb⟩
end Go.Proofs.YtnidfoboiddhfaaDoor
