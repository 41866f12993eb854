/- Equality of copies (contracts): copies of the same list are equal. -/
import Derived.Test.YtnidfoboiddhfaaDoorNodeKit2
import Derived.StillTailTactics
namespace Go.Proofs.YtnidfoboiddhfaaDoor
open Go.RowKit
set_option linter.unusedVariables false

theorem IntsIn.drewN {w : World} {B : Nat} {v : Value} {l : List Int} (h : IntsIn w B v l) (n : Nat) : IntsIn (w.drewN n) B v l := h
def RetTrue (w : World) (e : Ending) (w' : World) : Prop := e = .returned (.bool true) ∧ Below w.heap.size w w'
set_option maxRecDepth 100000 in
set_option maxHeartbeats 400000 in
theorem l_eqInts (v1 v2 : Value) (l : List Int) (w : World) (h1 : IntsIn w w.heap.size v1 l) (h2 : IntsIn w w.heap.size v2 l) : Calls Tryd.prog 69 #[v1, v2] w (RetTrue w) := by
  obtain ⟨A1, c1, rfl, hlc1, hcm1, hcell1, _⟩ := h1
  obtain ⟨A2, c2, rfl, hlc2, hcm2, hcell2, _⟩ := h2
  unfold maxLen at hcm1 hcm2
  obtain ⟨n, hn⟩ : ∃ n, l.length = n := ⟨_, rfl⟩
  rw [hn] at hlc1 hlc2 hcell1 hcell2 ⊢
  have hnH := Lib.hid hn
  clear hn
  go_enter Tryd.func69, Tryd.ntmps69
  go_wp2_with fail
  go_loopw [5] (fun i wr => ∃ (j : Nat), j ≤ n ∧ i = .int .i64 j ∧ Below w.heap.size w wr) (fun i _ => (n - (intOf i).toNat))
  case atStart => exact ⟨0, by omega, by go_num, Below.refl _ _⟩
  case round =>
    obtain ⟨j, hj, rfl, hb⟩ := hrel
    by_cases hlt : j < n
    · obtain ⟨x, hx⟩ : ∃ x, l[j]? = some x := ⟨l[j]'(by rw [hnH.out]; exact hlt), List.getElem?_eq_getElem _⟩
      obtain ⟨b1, o1, hA1, hl1, hc1⟩ := hcell1 (by omega)
      obtain ⟨b2, o2, hA2, hl2, hc2⟩ := hcell2 (by omega)
      subst hA1 hA2
      have e1 := hc1 j x hx
      have e2 := hc2 j x hx
      rw [← hb.cell (p := ⟨b1, o1 + j, none⟩) hl1] at e1
      rw [← hb.cell (p := ⟨b2, o2 + j, none⟩) hl2] at e2
      have hxH := Lib.hid hx
      clear hx hc1 hc2 hcell1 hcell2
      go_wp2_with fail
      go_quiet (fail)
      have hb := below_drewN hb nq
      generalize wr.drewN nq = w2 at hb ⊢
      go_wp2_with fail
      go_roundw
      case rel => exact ⟨j + 1, by omega, by go_num, hb⟩
      case measure => simp [intOf]; omega
    · obtain rfl : j = n := by omega
      clear hcell1 hcell2
      go_wp2_with fail
      go_ret
      exact ⟨rfl, hb⟩
set_option maxRecDepth 100000 in
set_option maxHeartbeats 400000 in
theorem l_eqNode (k o : Int) (t u : ByteArray) (v1 v2 : Value) (l : List Int) (w : World) (ht : t.size ≤ maxLen) (hu : u.size ≤ maxLen) (h1 : IntsIn w w.heap.size v1 l) (h2 : IntsIn w w.heap.size v2 l) :
    Calls Tryd.prog 42 #[.agg #[.int .i64 k, .int .i64 o, .string t, .string u, v1], .agg #[.int .i64 k, .int .i64 o, .string t, .string u, v2]] w (RetTrue w) := by
  have g1 := Lib.hid h1
  have g2 := Lib.hid h2
  obtain ⟨A1, c1, rfl, r⟩ := h1
  clear r
  obtain ⟨A2, c2, rfl, r⟩ := h2
  clear r
  go_enter Tryd.func42, Tryd.ntmps42
  go_wp2_with fail
  have hb0 : Below w.heap.size w ((w.alloc (Obj.cells #[.int .i64 k, .int .i64 o, .string t, .string u, .slice A1 l.length c1] 59)).alloc (Obj.cells #[.int .i64 k, .int .i64 o, .string t, .string u, .slice A2 l.length c2] 59)) := ((Below.refl _ _).alloc (Nat.le_refl _) _).alloc (by simp) _
  refine (l_eqInts _ _ l _ ((g1.out.keep hb0 (Nat.le_refl _)).more hb0.size) ((g2.out.keep hb0 (Nat.le_refl _)).more hb0.size)).mono ?_
  rintro e w1 ⟨rfl, hb1⟩
  have hb2 : Below w.heap.size w w1 := hb0.trans (hb1.mono hb0.size)
  go_wp2_with fail
  go_ret
  exact ⟨rfl, hb2⟩
set_option maxRecDepth 100000 in
set_option maxHeartbeats 1000000 in
theorem l_eqNodes (v1 v2 : Value) (l : List PNode) (w : World) (h1 : NodesIn w w.heap.size v1 l) (h2 : NodesIn w w.heap.size v2 l) : Calls Tryd.prog 15 #[v1, v2] w (RetTrue w) := by
  obtain ⟨A1, c1, rfl, hlc1, hcm1, hcell1, hsz⟩ := h1
  obtain ⟨A2, c2, rfl, hlc2, hcm2, hcell2, _⟩ := h2
  unfold maxLen at hcm1 hcm2
  obtain ⟨n, hn⟩ : ∃ n, l.length = n := ⟨_, rfl⟩
  rw [hn] at hlc1 hlc2 hcell1 hcell2 ⊢
  have hnH := Lib.hid hn
  clear hn
  go_enter Tryd.func15, Tryd.ntmps15
  go_wp2_with fail
  go_loopw [5] (fun i wr => ∃ (j : Nat), j ≤ n ∧ i = .int .i64 j ∧ Below w.heap.size w wr) (fun i _ => (n - (intOf i).toNat))
  case atStart => exact ⟨0, by omega, by go_num, Below.refl _ _⟩
  case round =>
    obtain ⟨j, hj, rfl, hb⟩ := hrel
    by_cases hlt : j < n
    · obtain ⟨nd, hnd⟩ : ∃ nd, l[j]? = some nd := ⟨l[j]'(by rw [hnH.out]; exact hlt), List.getElem?_eq_getElem _⟩
      obtain ⟨_, _, ht, hu⟩ := hsz nd (List.mem_of_getElem? hnd)
      obtain ⟨b1, o1, hA1, hl1, hc1⟩ := hcell1 (by omega)
      obtain ⟨b2, o2, hA2, hl2, hc2⟩ := hcell2 (by omega)
      subst hA1 hA2
      obtain ⟨kv1, e0, e1, e2, e3, e4, hK1⟩ := hc1 j nd hnd
      obtain ⟨kv2, f0, f1, f2, f3, f4, hK2⟩ := hc2 j nd hnd
      have hk1 : ∀ o, wr.cell? ⟨b1, o, none⟩ = w.cell? ⟨b1, o, none⟩ := fun o => hb.cell (p := ⟨b1, o, none⟩) hl1
      have hk2 : ∀ o, wr.cell? ⟨b2, o, none⟩ = w.cell? ⟨b2, o, none⟩ := fun o => hb.cell (p := ⟨b2, o, none⟩) hl2
      rw [← hk1] at e0 e1 e2 e3 e4
      rw [← hk2] at f0 f1 f2 f3 f4
      have hL1 := Lib.hid ((hK1.keep hb (Nat.le_refl _)).more hb.size)
      have hL2 := Lib.hid ((hK2.keep hb (Nat.le_refl _)).more hb.size)
      clear hK1 hK2
      have hxH := Lib.hid hnd
      have hs1 := Lib.hid hl1
      have hs2 := Lib.hid hl2
      have hszH := Lib.hid hsz
      clear hnd hc1 hc2 hcell1 hcell2 hk1 hk2 hl1 hl2 hsz
      go_wp2_with fail
      go_still_tail 8, (by kernel_rfl)
      change wpList _ _ _ _ _ wr.drew
      have hbd : Below w.heap.size w wr.drew := below_drewN hb 1
      have hM1 : Hid (IntsIn wr.drew wr.drew.heap.size kv1 nd.kids) := hL1
      have hM2 : Hid (IntsIn wr.drew wr.drew.heap.size kv2 nd.kids) := hL2
      clear hb hL1 hL2 e0 e1 e2 e3 e4 f0 f1 f2 f3 f4
      generalize wr.drew = w2 at hbd hM1 hM2 ⊢
      go_wp2_with fail
      refine (l_eqNode _ _ _ _ _ _ nd.kids _ ht hu hM1.out hM2.out).mono ?_
      rintro e w3 ⟨rfl, hb3⟩
      have hb4 := hbd.trans (hb3.mono hbd.size)
      go_wp2_with fail
      go_roundw
      case rel => exact ⟨j + 1, by omega, by go_num, hb4⟩
      case measure => simp [intOf]; omega
    · obtain rfl : j = n := by omega
      clear hcell1 hcell2 hsz
      go_wp2_with fail
      go_ret
      exact ⟨rfl, hb⟩
end Go.Proofs.YtnidfoboiddhfaaDoor
