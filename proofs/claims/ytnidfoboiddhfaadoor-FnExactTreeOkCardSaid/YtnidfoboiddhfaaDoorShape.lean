/- Where the subtrees of a list begin (walks of the reference): l6Starts, ShapeOk, StartOf. -/
import Derived.Test.YtnidfoboiddhfaaDoorOwnI
import Derived.Test.YtnidfoboiddhfaaDoorDepthPure
namespace Go.Proofs.YtnidfoboiddhfaaDoor
open Go.RowKit
set_option linter.unusedVariables false

def castL (s : List Nat) : List Int := s.map fun (x : Nat) => (x : Int)
theorem castL_len (s : List Nat) : (castL s).length = s.length := by simp [castL]
theorem castL_snoc (s : List Nat) (a : Nat) : castL s ++ [(a : Int)] = castL (s ++ [a]) := by simp [castL]
theorem castL_get {s : List Nat} {i x : Nat} (h : s[i]? = some x) : (castL s)[i]? = some (x : Int) := by simp [castL, h]
theorem castL_ok {s : List Nat} (h : Low s) (hl : s.length ≤ 1048576) : ∀ x ∈ castL s, okInt x := by
  intro x hx
  obtain ⟨n, hn, rfl⟩ := List.mem_map.1 hx
  obtain ⟨i, hi⟩ := List.mem_iff_getElem?.1 hn
  have := h i n hi
  have := (List.getElem?_eq_some_iff.1 hi).1
  unfold okInt
  omega
def RetStarts (w : World) (l : List PNode) (e : Ending) (w' : World) : Prop := ∃ v, e = .returned (.tuple #[v, .bool (startsL l).isSome]) ∧ (∀ s, startsL l = some s → IntsIn w' w'.heap.size v (castL s)) ∧ FromOn w.heap.size v ∧ Below w.heap.size w w'
theorem RetStarts.no {w wx : World} {l : List PNode} {v : Value} (hn : startsL l = none) (hf : FromOn w.heap.size v) (hb : Below w.heap.size w wx) : RetStarts w l (.returned (.tuple #[v, .bool false])) wx := by
  unfold RetStarts
  rw [hn]
  exact ⟨v, rfl, (fun s h => by cases h), hf, hb⟩
theorem RetStarts.yes {w wx : World} {l : List PNode} {v : Value} {s : List Nat} (hs : startsL l = some s) (hi : IntsIn wx wx.heap.size v (castL s)) (hf : FromOn w.heap.size v) (hb : Below w.heap.size w wx) : RetStarts w l (.returned (.tuple #[v, .bool true])) wx := by
  unfold RetStarts
  rw [hs]
  exact ⟨v, rfl, (fun s2 h => by obtain rfl := Option.some.inj h; exact hi), hf, hb⟩
theorem FromOn.row {b g n c : Nat} (h : b ≤ g) : FromOn b (.slice (some ⟨g, 0, none⟩) n c) := fun k hk => by obtain rfl := Option.some.inj hk; exact h
theorem FromOn.nil (b : Nat) : FromOn b (.slice none 0 0) := fun k hk => by cases hk
set_option maxRecDepth 100000 in
set_option maxHeartbeats 2000000 in
theorem s_starts (v : Value) (l : List PNode) (w : World) (hl : l.length ≤ 1048576) (h : NodesIn w w.heap.size v l) : Calls Tryd.prog 85 #[v] w (RetStarts w l) := by
  obtain ⟨A, c, rfl, hlc, hcm, hcell, hsz⟩ := h
  unfold maxLen at hcm
  clear hsz
  obtain ⟨n, hn⟩ : ∃ n, l.length = n := ⟨_, rfl⟩
  rw [hn] at hl hlc hcell ⊢
  have hnH := Lib.hid hn
  clear hn
  go_enter Tryd.func85, Tryd.ntmps85
  go_wp2_with fail
  go_loopw [4, 5] (fun x i wr => ∃ (j : Nat) (done : List Nat), j ≤ n ∧ Hid (startsL l = startsF (l.drop j) done ∧ done.length = j ∧ Low done) ∧ OwnI wr w.heap.size x (castL done) ∧ i = .int .i64 j ∧ Below w.heap.size w wr) (fun _ i _ => (n - (intOf i).toNat))
  case atStart => exact ⟨0, [], by omega, ⟨rfl, rfl, Low.nil⟩, OwnI.start w (Nat.le_refl _), by go_num, (Below.refl _ _).alloc (Nat.le_refl _) _⟩
  case round =>
    obtain ⟨j, done, hj, hd, hown, rfl, hb⟩ := hrel
    by_cases hlt : j < n
    · obtain ⟨nd, hnd⟩ : ∃ nd, l[j]? = some nd := ⟨l[j]'(by rw [hnH.out]; exact hlt), List.getElem?_eq_getElem _⟩
      obtain ⟨b, off, hA, hlt2, hc⟩ := hcell (by omega)
      subst hA
      obtain ⟨kv, e0, e1, e2, e3, e4, K, kc, rfl, hk1, hk2, hk3, hk4⟩ := hc j nd hnd
      have hk : ∀ o, wr.cell? ⟨b, o, none⟩ = w.cell? ⟨b, o, none⟩ := fun o => hb.cell (p := ⟨b, o, none⟩) hlt2
      rw [← hk] at e0 e1 e2 e3 e4
      clear hk e0 e1 e2 e3 hk4
      obtain ⟨m, hm⟩ : ∃ m, nd.kids.length = m := ⟨_, rfl⟩
      rw [hm] at e4 hk1 hk3
      have hmH := Lib.hid hm
      have hdr := Lib.hid (startsF_drop l j nd hnd done)
      unfold maxLen at hk2
      have hown2 := Lib.hid hown
      clear hm hc hcell
      go_wp2_with fail
      go_loop [6, 7] (fun p k => ∃ (a cc : Nat), a ≤ j ∧ cc ≤ m ∧ Hid (backK done nd.kids.reverse done.length = backK done (nd.kids.take cc).reverse a) ∧ p = .int .i64 a ∧ k = .int .i64 ((cc : Int) - 1)) (fun _ k => (intOf k + 1).toNat)
      case atStart => exact ⟨j, m, Nat.le_refl _, Nat.le_refl _, by show _ = _; rw [List.take_of_length_le (by rw [hmH.out]; omega), hd.out.2.1], by go_num, by go_num⟩
      case round =>
        obtain ⟨a, cc, ha, hcc, hbk, rfl, rfl⟩ := hrel
        by_cases hc0 : cc = 0
        · subst hc0
          have hst : Hid (startsL l = startsF (l.drop (j + 1)) (done ++ [a]) ∧ (done ++ [a]).length = j + 1 ∧ Low (done ++ [a])) := by
            have h1 := hdr.out
            rw [hbk.out] at h1
            simp only [List.take_zero, List.reverse_nil, backK] at h1
            exact ⟨hd.out.1.trans h1, by simp [hd.out.2.1], hd.out.2.2.snoc (by rw [hd.out.2.1]; exact ha)⟩
          have hlen : Hid ((castL done).length + 1 ≤ 16777216) := by
            show _ ≤ _
            rw [castL_len, hd.out.2.1]
            omega
          go_wp2_with (at_builtin; refine app_ints (by rfl) _ _ (by rfl) w.heap.size _ (castL done) (by rfl) (hown2.out.alloc _) _ 1 1 [(a : Int)] (by rfl) rfl (one_newi _ _ _) hlen.out (by have := hb.size; simp; omega) ?_; intro v' w' hown' hb'; rw [castL_snoc] at hown'; have hown3 := Lib.hid hown'; clear hown')
          go_roundw
          case rel => exact ⟨j + 1, done ++ [a], by omega, hst, hown3.out, by go_num, (hb.alloc hb.size _).trans hb'⟩
          case measure => simp [intOf]; omega
        · obtain ⟨d, rfl⟩ : ∃ d, cc = d + 1 := ⟨cc - 1, by omega⟩
          obtain ⟨x, hx⟩ : ∃ x, nd.kids[d]? = some x := ⟨nd.kids[d]'(by rw [hmH.out]; omega), List.getElem?_eq_getElem _⟩
          obtain ⟨bk, ok, hK, hbl, hkc⟩ := hk3 (by omega)
          subst hK
          have ex := (hb.cell (p := ⟨bk, ok + d, none⟩) hbl).trans (hkc d x hx)
          have hsn := Lib.hid (backK_snoc done nd.kids d x hx a)
          have hcast : ((d + 1 : Nat) : Int) - 1 = (d : Int) := by omega
          rw [hcast]
          clear hkc hx hcast hk3
          by_cases hbad : a ≠ 0 ∧ x = (a : Int) - 1
          · obtain ⟨ha0, rfl⟩ := hbad
            obtain ⟨y, rfl⟩ : ∃ y, a = y + 1 := ⟨a - 1, by omega⟩
            obtain ⟨z, hz1, hz2, hz3⟩ := hd.out.2.2.get (j := y) (by rw [hd.out.2.1]; omega)
            have hst : Hid (backK done nd.kids.reverse done.length = backK done (nd.kids.take d).reverse z) := by
              show _ = _
              rw [hbk.out, hsn.out, if_pos ⟨by omega, rfl⟩, show y + 1 - 1 = y by omega, hz2]
            have hcy : ((y + 1 : Nat) : Int) - 1 = (y : Int) := by omega
            rw [hcy] at ex
            rcases hown2.out.open with ⟨hv0, h0⟩ | ⟨gx, cx, rfl, hgx, hgl, hc1, hc2, hcx⟩
            · have h1 := congrArg List.length h0
              rw [castL_len, hd.out.2.1] at h1
              simp at h1
              omega
            · have ey := hcx y z (castL_get hz1)
              have hlen2 : (castL done).length = j := by rw [castL_len, hd.out.2.1]
              rw [hlen2] at hc1 ⊢
              unfold maxLen at hc2
              clear hcx hz1 hz2 hcy ha0 hlen2
              go_wp2_with fail
              go_round
              case rel => exact ⟨z, d, by omega, by omega, hst, by go_num, by go_num⟩
              case measure => simp [intOf]
          · have hno : Hid (startsL l = none) := by
              show _ = _
              rw [hd.out.1, hdr.out, hbk.out, hsn.out, if_neg hbad]
            by_cases hq : x = (a : Int) - 1
            · have ha0 : a = 0 := by
                by_cases e : a = 0
                · exact e
                · exact absurd ⟨e, hq⟩ hbad
              subst ha0 hq
              go_wp2_with fail
              go_ret2
              exact RetStarts.no hno.out (FromOn.row hb.size) (hb.alloc hb.size _)
            · have hq2 : (x != (a : Int) - 1) = true := by rw [bne_iff_ne]; exact hq
              clear hbad
              go_wp2_with fail
              go_ret2
              exact RetStarts.no hno.out (FromOn.row hb.size) (hb.alloc hb.size _)
    · obtain rfl : j = n := by omega
      have hs : startsL l = some done := by
        rw [hd.out.1, List.drop_eq_nil_of_le (by rw [hnH.out]; omega)]
        rfl
      have hi := hown.ints (castL_ok hd.out.2.2 (by rw [hd.out.2.1]; omega))
      have hfin := Lib.hid (RetStarts.yes hs hi.1 hi.2 hb)
      clear hcell hs hi hown
      go_wp2_with fail
      go_ret2
      exact hfin.out
end Go.Proofs.YtnidfoboiddhfaaDoor
