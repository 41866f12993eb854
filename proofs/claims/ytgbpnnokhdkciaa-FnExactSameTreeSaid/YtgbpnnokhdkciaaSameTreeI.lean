/- SameTree of the program (walks). -/
import Derived.Test.YtgbpnnokhdkciaaSameTree
namespace Go.Proofs.Ytgbpnnokhdkciaa
open Go.RowKit
set_option linter.unusedVariables false

set_option maxRecDepth 100000 in
set_option maxHeartbeats 1000000 in
theorem i_ints (v1 v2 : Value) (l1 l2 : List Int) (w : World) (h1 : IntsIn w w.heap.size v1 l1) (h2 : IntsIn w w.heap.size v2 l2) : Calls Try.prog 117 #[v1, v2] w (RetBool w (allB intEq l1 l2)) := by
  have g1 := Lib.hid h1
  have g2 := Lib.hid h2
  obtain ⟨A1, c1, rfl, hlc1, hcm1, r1⟩ := h1
  obtain ⟨A2, c2, rfl, hlc2, hcm2, r2⟩ := h2
  unfold maxLen at hcm1 hcm2
  clear r1 r2
  obtain ⟨n, hn⟩ : ∃ n, l1.length = n := ⟨_, rfl⟩
  obtain ⟨m, hm⟩ : ∃ n, l2.length = n := ⟨_, rfl⟩
  rw [hn] at hlc1 g1
  rw [hm] at hlc2 g2
  rw [hn, hm]
  have hnH := Lib.hid hn
  have hmH := Lib.hid hm
  clear hn hm
  by_cases hnm : n = m
  · subst hnm
    obtain ⟨R, hR⟩ : ∃ R, allB intEq l1 l2 = R := ⟨_, rfl⟩
    rw [hR]
    have hRH := Lib.hid hR
    clear hR
    go_enter Try.func117, Try.ntmps117
    go_wp2_with fail
    go_loopw [13] (fun i wr => ∃ (j : Nat), j ≤ n ∧ Hid (∀ t x y, t < j → l1[t]? = some x → l2[t]? = some y → intEq x y = true) ∧ i = .int .i64 j ∧ Below w.heap.size w wr) (fun i _ => (n - (intOf i).toNat))
    case atStart => exact ⟨0, by omega, (fun t x y h => by omega : ∀ t x y, t < 0 → _), by go_num, Below.refl _ _⟩
    case round =>
      obtain ⟨j, hj, hd, rfl, hb⟩ := hrel
      by_cases hlt : j < n
      · obtain ⟨t, ht⟩ : ∃ t, l1[j]? = some t := ⟨l1[j]'(by rw [hnH.out]; exact hlt), List.getElem?_eq_getElem _⟩
        obtain ⟨s, hs⟩ : ∃ t, l2[j]? = some t := ⟨l2[j]'(by rw [hmH.out]; exact hlt), List.getElem?_eq_getElem _⟩
        obtain ⟨b1, o1, rfl, e0⟩ := g1.out.at hb ht
        obtain ⟨b2, o2, rfl, f0⟩ := g2.out.at hb hs
        have hno := fun (h : intEq t s = false) => allB_no ht hs h
        have hst : intEq t s = true → Hid (∀ i x y, i < j + 1 → l1[i]? = some x → l2[i]? = some y → intEq x y = true) := fun h i x y hi hx hy => by
          by_cases e : i = j
          · subst e
            rw [ht] at hx; rw [hs] at hy
            rw [← Option.some.inj hx, ← Option.some.inj hy]; exact h
          · exact hd.out i x y (by omega) hx hy
        clear ht hs
        cases hk : t == s
        · have hR := Lib.hid (hno hk)
          clear hno hst
          have hRF : R = false := by rw [← hRH.out, hR.out]
          have hk' : (t != s) = true := by rw [bne, hk]; rfl
          clear hk
          subst hRF
          go_wp2_with fail
          go_quiet (fail)
          have hb := below_drewN hb nq
          generalize wr.drewN nq = w2 at hb ⊢
          go_wp2_with fail
          go_ret
          exact ⟨rfl, hb⟩
        · have hst := hst hk
          have hk' := eq_of_beq hk
          rw [hk'] at e0
          clear hno hk hk'
          go_wp2_with fail
          go_quiet (fail)
          have hb := below_drewN hb nq
          generalize wr.drewN nq = w2 at hb ⊢
          go_wp2_with fail
          go_roundw
          case rel => exact ⟨j + 1, by omega, hst, by go_num, hb⟩
          case measure => simp [intOf]; omega
      · obtain rfl : j = n := by omega
        have hR : Hid (allB intEq l1 l2 = true) := allB_yes (by rw [hnH.out, hmH.out]) fun i x y hx hy => hd.out i x y (by have := (List.getElem?_eq_some_iff.1 hx).1; have := hnH.out; omega) hx hy
        have hRT : R = true := by rw [← hRH.out, hR.out]
        subst hRT
        go_wp2_with fail
        go_ret
        exact ⟨rfl, hb⟩
  · have hR : allB intEq l1 l2 = false := allB_len (by rw [hnH.out, hmH.out]; exact hnm)
    rw [hR]
    clear hR
    have hq : ((n : Int) != (m : Int)) = true := by simp; omega
    go_enter Try.func117, Try.ntmps117
    go_wp2_with fail
    go_ret
    exact ⟨rfl, Below.refl _ _⟩
set_option maxRecDepth 100000 in
set_option maxHeartbeats 1000000 in
theorem i_nodeEq (a b : PNode) (K1 K2 : Option Addr) (kc1 kc2 : Nat) (w : World) (h1 : IntsIn w w.heap.size (.slice K1 a.kids.length kc1) a.kids) (h2 : IntsIn w w.heap.size (.slice K2 b.kids.length kc2) b.kids) :
    Calls Try.prog 116 #[.agg #[.int .i64 a.kind, .int .i64 a.op, .string a.text, .string a.other, .slice K1 a.kids.length kc1], .agg #[.int .i64 b.kind, .int .i64 b.op, .string b.text, .string b.other, .slice K2 b.kids.length kc2]] w (RetBool w (nodeEq a b)) := by
  have hb : Below w.heap.size w ((w.alloc (.cells #[.int .i64 a.kind, .int .i64 a.op, .string a.text, .string a.other, .slice K1 a.kids.length kc1] 67)).alloc (.cells #[.int .i64 b.kind, .int .i64 b.op, .string b.text, .string b.other, .slice K2 b.kids.length kc2] 67)) := ((Below.refl _ _).alloc (Nat.le_refl _) _).alloc (by simp) _
  have hcl := i_ints _ _ _ _ _ ((h1.keep hb (Nat.le_refl _)).more hb.size) ((h2.keep hb (Nat.le_refl _)).more hb.size)
  cases hk : a.kind == b.kind
  · have hR : nodeEq a b = false := by rw [nodeEq, hk]; rfl
    rw [hR]
    clear hR hcl h1 h2
    go_enter Try.func116, Try.ntmps116
    go_wp2_with fail
    go_ret
    exact ⟨rfl, hb⟩
  · skip
    cases ho : a.op == b.op
    · have hR : nodeEq a b = false := by rw [nodeEq, hk, ho]; rfl
      rw [hR]
      clear hR hcl h1 h2
      go_enter Try.func116, Try.ntmps116
      go_wp2_with fail
      go_ret
      exact ⟨rfl, hb⟩
    · skip
      cases hx : a.text.toList == b.text.toList
      · have hR : nodeEq a b = false := by rw [nodeEq, hk, ho, hx]; rfl
        rw [hR]
        clear hR hcl h1 h2
        go_enter Try.func116, Try.ntmps116
        go_wp2_with fail
        go_ret
        exact ⟨rfl, hb⟩
      · skip
        cases hy : a.other.toList == b.other.toList
        · have hR : nodeEq a b = false := by rw [nodeEq, hk, ho, hx, hy]; rfl
          rw [hR]
          clear hR hcl h1 h2
          go_enter Try.func116, Try.ntmps116
          go_wp2_with fail
          go_ret
          exact ⟨rfl, hb⟩
        · skip
          have hR : nodeEq a b = allB intEq a.kids b.kids := by rw [nodeEq, hk, ho, hx, hy]; rfl
          rw [hR]
          clear hR h1 h2
          go_enter Try.func116, Try.ntmps116
          go_wp2_with fail
          refine hcl.mono ?_
          rintro e w2 ⟨rfl, hb2⟩
          have hb3 := hb.trans (hb2.mono hb.size)
          go_wp2_with fail
          go_ret
          exact ⟨rfl, hb3⟩
set_option maxRecDepth 100000 in
set_option maxHeartbeats 4000000 in
theorem eqf_node (v1 v2 : Value) (l1 l2 : List PNode) (w : World) (h1 : NodesIn w w.heap.size v1 l1) (h2 : NodesIn w w.heap.size v2 l2) : Calls Try.prog 115 #[v1, v2, .func (.func 116) #[] #[]] w (RetBool w (allB nodeEq l1 l2)) := by
  have g1 := Lib.hid h1
  have g2 := Lib.hid h2
  obtain ⟨A1, c1, rfl, hlc1, hcm1, r1⟩ := h1
  obtain ⟨A2, c2, rfl, hlc2, hcm2, r2⟩ := h2
  unfold maxLen at hcm1 hcm2
  clear r1 r2
  obtain ⟨n, hn⟩ : ∃ n, l1.length = n := ⟨_, rfl⟩
  obtain ⟨m, hm⟩ : ∃ n, l2.length = n := ⟨_, rfl⟩
  rw [hn] at hlc1 g1
  rw [hm] at hlc2 g2
  rw [hn, hm]
  have hnH := Lib.hid hn
  have hmH := Lib.hid hm
  clear hn hm
  by_cases hnm : n = m
  · subst hnm
    obtain ⟨R, hR⟩ : ∃ R, allB nodeEq l1 l2 = R := ⟨_, rfl⟩
    rw [hR]
    have hRH := Lib.hid hR
    clear hR
    go_enter Try.func115, Try.ntmps115
    go_wp2_with fail
    go_loopw [17] (fun i wr => ∃ (j : Nat), j ≤ n ∧ Hid (∀ t x y, t < j → l1[t]? = some x → l2[t]? = some y → nodeEq x y = true) ∧ i = .int .i64 j ∧ Below w.heap.size w wr) (fun i _ => (n - (intOf i).toNat))
    case atStart => exact ⟨0, by omega, (fun t x y h => by omega : ∀ t x y, t < 0 → _), by go_num, Below.refl _ _⟩
    case round =>
      obtain ⟨j, hj, hd, rfl, hb⟩ := hrel
      by_cases hlt : j < n
      · obtain ⟨t, ht⟩ : ∃ t, l1[j]? = some t := ⟨l1[j]'(by rw [hnH.out]; exact hlt), List.getElem?_eq_getElem _⟩
        obtain ⟨s, hs⟩ : ∃ t, l2[j]? = some t := ⟨l2[j]'(by rw [hmH.out]; exact hlt), List.getElem?_eq_getElem _⟩
        obtain ⟨b1, o1, K1, kc1, rfl, e0, e1, e2, e3, e4, hK1⟩ := g1.out.at hb ht
        obtain ⟨b2, o2, K2, kc2, rfl, f0, f1, f2, f3, f4, hK2⟩ := g2.out.at hb hs
        have hL1 := Lib.hid (hK1.more hb.size)
        have hL2 := Lib.hid (hK2.more hb.size)
        clear hK1 hK2
        have hno := fun (h : nodeEq t s = false) => allB_no ht hs h
        have hst : nodeEq t s = true → Hid (∀ i x y, i < j + 1 → l1[i]? = some x → l2[i]? = some y → nodeEq x y = true) := fun h i x y hi hx hy => by
          by_cases e : i = j
          · subst e
            rw [ht] at hx; rw [hs] at hy
            rw [← Option.some.inj hx, ← Option.some.inj hy]; exact h
          · exact hd.out i x y (by omega) hx hy
        clear ht hs
        have hcl := fun W (hW : Below wr.heap.size wr W) => i_nodeEq t s _ _ _ _ W ((hL1.out.keep hW (Nat.le_refl _)).more hW.size) ((hL2.out.keep hW (Nat.le_refl _)).more hW.size)
        have hl1 : b1 < wr.heap.size := cell_below e0
        have hl2 : b2 < wr.heap.size := cell_below f0
        obtain ⟨a, ha⟩ : ∃ a, nodeEq t s = a := ⟨_, rfl⟩
        rw [ha] at hcl hno hst
        clear ha hL1 hL2
        cases a
        · have hR := Lib.hid (hno rfl)
          have hRF : R = false := by rw [← hRH.out, hR.out]
          subst hRF
          clear hno hst
          have hba := ((Below.refl wr.heap.size wr).alloc (Nat.le_refl _) (.cells #[.int .i64 t.kind, .int .i64 t.op, .string t.text, .string t.other, .slice K1 t.kids.length kc1] 67)).alloc (by simp) (.cells #[.int .i64 s.kind, .int .i64 s.op, .string s.text, .string s.other, .slice K2 s.kids.length kc2] 67)
          have hcl := hcl _ hba
          go_wp2_with fail
          refine hcl.mono ?_
          rintro e w3 ⟨rfl, hb3⟩
          have hb4 := hb.trans ((hba.trans (hb3.mono hba.size)).mono hb.size)
          go_wp2_with fail
          go_ret
          exact ⟨rfl, hb4⟩
        · have hst' := hst rfl
          clear hno hst
          have hba := ((Below.refl wr.heap.size wr).alloc (Nat.le_refl _) (.cells #[.int .i64 t.kind, .int .i64 t.op, .string t.text, .string t.other, .slice K1 t.kids.length kc1] 67)).alloc (by simp) (.cells #[.int .i64 s.kind, .int .i64 s.op, .string s.text, .string s.other, .slice K2 s.kids.length kc2] 67)
          have hcl := hcl _ hba
          go_wp2_with fail
          refine hcl.mono ?_
          rintro e w3 ⟨rfl, hb3⟩
          have hb4 := hb.trans ((hba.trans (hb3.mono hba.size)).mono hb.size)
          go_wp2_with fail
          go_roundw
          case rel => exact ⟨j + 1, by omega, hst', by go_num, hb4⟩
          case measure => simp [intOf]; omega
      · obtain rfl : j = n := by omega
        have hR : Hid (allB nodeEq l1 l2 = true) := allB_yes (by rw [hnH.out, hmH.out]) fun i x y hx hy => hd.out i x y (by have := (List.getElem?_eq_some_iff.1 hx).1; have := hnH.out; omega) hx hy
        have hRT : R = true := by rw [← hRH.out, hR.out]
        subst hRT
        go_wp2_with fail
        go_ret
        exact ⟨rfl, hb⟩
  · have hR : allB nodeEq l1 l2 = false := allB_len (by rw [hnH.out, hmH.out]; exact hnm)
    rw [hR]
    clear hR
    have hq : ((n : Int) != (m : Int)) = true := by simp; omega
    go_enter Try.func115, Try.ntmps115
    go_wp2_with fail
    go_ret
    exact ⟨rfl, Below.refl _ _⟩
set_option maxRecDepth 100000 in
theorem i_sameTree (v1 v2 : Value) (l1 l2 : List PNode) (w : World) (h1 : NodesIn w w.heap.size v1 l1) (h2 : NodesIn w w.heap.size v2 l2) : Calls Try.prog 74 #[v1, v2] w (RetBool w (allB nodeEq l1 l2)) := by
  go_enter Try.func74, Try.ntmps74
  go_wp2_with fail
  refine (eqf_node v1 v2 l1 l2 w h1 h2).mono ?_
  rintro e w2 ⟨rfl, hb2⟩
  go_wp2_with fail
  go_ret
  exact ⟨rfl, hb2⟩
end Go.Proofs.Ytgbpnnokhdkciaa
