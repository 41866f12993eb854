/- The functions of the laws over nodes (contracts): how large they are, copies of them, equality. -/
import Derived.Test.YtnidfoboiddhfaaDoorChars
import Derived.Test.YtnidfoboiddhfaaDoorData
import Derived.Deep.QuietTactic
import Derived.BigQuiet
namespace Go.Proofs.YtnidfoboiddhfaaDoor
open Go.RowKit
set_option linter.unusedVariables false

theorem l_szInts (A : Option Addr) (n c : Nat) (left : Int) (w : World) (h0 : 0 ≤ left) (h1 : left ≤ 1048576) (hn : n ≤ maxLen) : Calls Tryd.prog 67 #[.slice A n c, .int .i64 left] w fun e w' => e = .returned (.int .i64 (subB left n)) ∧ w = w' := by
  unfold maxLen at hn
  by_cases h : left < n
  · have hs : Hid (subB left n = -1) := by show subB left n = -1; rw [subB, if_pos h]
    go_enter Tryd.func67, Tryd.ntmps67
    go_wp2
    go_ret
    exact ⟨ret_int hs.out.symm, rfl⟩
  · have hs : Hid (subB left n = left - n) := by show subB left n = _; rw [subB, if_neg h]
    go_enter Tryd.func67, Tryd.ntmps67
    go_wp2
    go_ret
    exact ⟨ret_int hs.out.symm, rfl⟩
set_option maxHeartbeats 400000 in
theorem l_szNode (k o : Int) (t u : ByteArray) (A : Option Addr) (n c : Nat) (left : Int) (w : World) (h0 : 0 ≤ left) (h1 : left ≤ 1048576) (ht : t.size ≤ maxLen) (hu : u.size ≤ maxLen) (hn : n ≤ maxLen) :
    Calls Tryd.prog 38 #[.agg #[.int .i64 k, .int .i64 o, .string t, .string u, .slice A n c], .int .i64 left] w fun e w' => e = .returned (.int .i64 (subB left (t.size + u.size + n))) ∧ Below w.heap.size w w' := by
  have hn' := hn
  unfold maxLen at hn ht hu
  by_cases c1 : left < t.size
  · have hs : Hid (subB left (t.size + u.size + n) = -1) := by show _ = _; rw [subB, if_pos (by omega)]
    go_enter Tryd.func38, Tryd.ntmps38
    go_wp2_with fail
    go_ret
    exact ⟨ret_int hs.out.symm, (Below.refl _ _).alloc (Nat.le_refl _) _⟩
  · by_cases c2 : left < t.size + u.size
    · have hs : Hid (subB left (t.size + u.size + n) = -1) := by show _ = _; rw [subB, if_pos (by omega)]
      go_enter Tryd.func38, Tryd.ntmps38
      go_wp2_with fail
      go_ret
      exact ⟨ret_int hs.out.symm, (Below.refl _ _).alloc (Nat.le_refl _) _⟩
    · by_cases c3 : left < t.size + u.size + n
      · have hs : Hid (subB left (t.size + u.size + n) = -1) := by show _ = _; rw [subB, if_pos (by omega)]
        have hs2 : subB (left - t.size - u.size) n = -1 := by rw [subB, if_pos (by omega)]
        go_enter Tryd.func38, Tryd.ntmps38
        go_wp2_with (go_at_call 67; refine (l_szInts _ _ _ _ _ (by omega) (by omega) hn').mono ?_; rintro e w' ⟨rfl, rfl⟩)
        go_ret
        exact ⟨ret_int hs.out.symm, (Below.refl _ _).alloc (Nat.le_refl _) _⟩
      · have hs : Hid (subB left (t.size + u.size + n) = left - t.size - u.size - n) := by show _ = _; rw [subB, if_neg (by omega)]; omega
        have hs2 : subB (left - t.size - u.size) n = left - t.size - u.size - n := by rw [subB, if_neg (by omega)]
        go_enter Tryd.func38, Tryd.ntmps38
        go_wp2_with (go_at_call 67; refine (l_szInts _ _ _ _ _ (by omega) (by omega) hn').mono ?_; rintro e w' ⟨rfl, rfl⟩)
        go_ret
        exact ⟨ret_int hs.out.symm, (Below.refl _ _).alloc (Nat.le_refl _) _⟩

theorem subB_lt {left : Int} {b : Nat} (h : left < b) : subB left b = -1 := by rw [subB, if_pos h]
theorem subB_ge {left : Int} {b : Nat} (h : ¬ left < b) : subB left b = left - b := by rw [subB, if_neg h]
set_option maxRecDepth 100000 in
set_option maxHeartbeats 400000 in
theorem l_szNodes (v : Value) (l : List PNode) (left : Int) (w : World) (h0 : 0 ≤ left) (h1 : left ≤ 1048576) (h : NodesIn w w.heap.size v l) :
    Calls Tryd.prog 11 #[v, .int .i64 left] w fun e w' => e = .returned (.int .i64 (subB left (nodesBulk l))) ∧ Below w.heap.size w w' := by
  obtain ⟨A, c, rfl, hlc, hcm, hcell, hsz⟩ := h
  unfold maxLen at hcm
  by_cases hl : left < l.length
  · have hs : Hid (subB left (nodesBulk l) = -1) := by show _ = _; rw [subB_lt]; unfold nodesBulk; omega
    go_enter Tryd.func11, Tryd.ntmps11
    go_wp2_with fail
    go_ret
    exact ⟨ret_int hs.out.symm, Below.refl _ _⟩
  · obtain ⟨n, hn⟩ : ∃ n, l.length = n := ⟨_, rfl⟩
    rw [hn] at hl hlc hcell ⊢
    have hnH := Lib.hid hn
    clear hn
    go_enter Tryd.func11, Tryd.ntmps11
    go_wp2_with fail
    go_loopw [1, 5] (fun x i wr => ∃ (j : Nat) (z : Int), j ≤ n ∧ (0 ≤ z ∧ z ≤ 1048576) ∧ Hid (z = left - n - bulkSum (l.take j)) ∧ x = .int .i64 z ∧ i = .int .i64 j ∧ Below w.heap.size w wr) (fun _ i _ => (n - (intOf i).toNat))
    case atStart => exact ⟨0, left - n, by omega, by omega, by show _ = _; simp [bulkSum], by go_num, by go_num, Below.refl _ _⟩
    case round =>
      obtain ⟨j, z, hj, hz, hd, rfl, rfl, hb⟩ := hrel
      by_cases hlt : j < n
      · obtain ⟨nd, hnd⟩ : ∃ nd, l[j]? = some nd := ⟨l[j]'(by rw [hnH.out]; exact hlt), List.getElem?_eq_getElem _⟩
        have hmem : nd ∈ l := List.mem_of_getElem? hnd
        obtain ⟨_, _, ht, hu⟩ := hsz nd hmem
        obtain ⟨b, off, hA, hlt2, hc⟩ := hcell (by omega)
        subst hA
        obtain ⟨kv, e0, e1, e2, e3, e4, K, kc, rfl, hkc, hkm, _⟩ := hc j nd hnd
        have hkl : nd.kids.length ≤ maxLen := by omega
        have hk : ∀ o, wr.cell? ⟨b, o, none⟩ = w.cell? ⟨b, o, none⟩ := fun o => hb.cell (p := ⟨b, o, none⟩) hlt2
        rw [← hk] at e0 e1 e2 e3 e4
        clear hk
        have hH := Lib.hid hnd
        clear hnd hcell hsz hc
        by_cases hlast : z < nodeBulk nd
        · have hs : Hid (subB left (nodesBulk l) = -1) := by
            show _ = _
            rw [subB_lt]
            have h1 := bulk_take hH.out
            have h2 := bulk_take_le l (j + 1)
            have h3 := hd.out
            have h4 := hnH.out
            unfold nodesBulk
            omega
          have hx : subB z (nd.text.size + nd.other.size + nd.kids.length) = -1 := subB_lt hlast
          have hx := hx
          go_wp2_with (go_at_call 38; refine (l_szNode _ _ _ _ _ _ _ _ _ hz.1 hz.2 ht hu hkl).mono ?_; rintro e w1 ⟨rfl, hb1⟩)
          go_ret
          exact ⟨ret_int hs.out.symm, hb.trans (hb1.mono hb.size)⟩
        · have hst : Hid (z - nodeBulk nd = left - n - bulkSum (l.take (j + 1))) := by
            show _ = _
            have h1 := bulk_take hH.out
            have h3 := hd.out
            rw [h1]
            omega
          have hx : subB z (nd.text.size + nd.other.size + nd.kids.length) = z - (nodeBulk nd : Int) := subB_ge hlast
          obtain ⟨q, hq⟩ : ∃ q : Int, z - (nodeBulk nd : Int) = q := ⟨_, rfl⟩
          rw [hq] at hx hst
          have hq0 : 0 ≤ q ∧ q ≤ 1048576 := by omega
          have hqb : decide (q < 0) = false := by simp; omega
          clear hq hlast
          go_wp2_with (go_at_call 38; refine (l_szNode _ _ _ _ _ _ _ _ _ hz.1 hz.2 ht hu hkl).mono ?_; rintro e w1 ⟨rfl, hb1⟩)
          go_roundw
          case rel => exact ⟨j + 1, q, by omega, hq0, hst, rfl, by go_num, hb.trans (hb1.mono hb.size)⟩
          case measure => simp [intOf]; omega
      · obtain rfl : j = n := by omega
        have hs : Hid (subB left (nodesBulk l) = z) := by
          show _ = _
          have h3 := hd.out
          have h4 := hnH.out
          rw [List.take_of_length_le (by omega)] at h3
          rw [subB_ge (by unfold nodesBulk; omega)]
          unfold nodesBulk
          omega
        go_wp2_with fail
        go_ret
        exact ⟨ret_int hs.out.symm, hb⟩
end Go.Proofs.YtnidfoboiddhfaaDoor
