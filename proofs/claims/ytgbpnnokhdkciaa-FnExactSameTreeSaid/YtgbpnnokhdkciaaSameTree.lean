/- SameTree (walks). -/
import Derived.Test.YtgbpnnokhdkciaaSameTok
namespace Go.Proofs.Ytgbpnnokhdkciaa
open Go.RowKit
set_option linter.unusedVariables false

def intEq (x y : Int) : Bool := x == y
theorem IntsIn.at {w wr : World} {B : Nat} {A : Option Addr} {l : List Int} {n c : Nat} (h : IntsIn w B (.slice A n c) l) (hb : Below B w wr) {j : Nat} {t : Int} (ht : l[j]? = some t) :
    ∃ b off, A = some ⟨b, off, none⟩ ∧ wr.cell? ⟨b, off + j, none⟩ = some (.int .i64 t) := by
  obtain ⟨A', c', e, _, _, hc, _⟩ := h
  obtain ⟨rfl, _, _⟩ := Value.slice.inj e
  obtain ⟨b, off, hA, hlt, hd⟩ := hc (by have := (List.getElem?_eq_some_iff.1 ht).1; omega)
  exact ⟨b, off, hA, (hb.cell (p := ⟨b, off + j, none⟩) hlt).trans (hd j t ht)⟩
noncomputable def nodeEq (a b : PNode) : Bool := (((a.kind == b.kind && a.op == b.op) && a.text.toList == b.text.toList) && a.other.toList == b.other.toList) && allB intEq a.kids b.kids
/-- the cells of node j, read in a later world -/
theorem NodesIn.at {w wr : World} {A : Option Addr} {l : List PNode} {n c : Nat} (h : NodesIn w w.heap.size (.slice A n c) l) (hb : Below w.heap.size w wr) {j : Nat} {t : PNode} (ht : l[j]? = some t) :
    ∃ b off K kc, A = some ⟨b, off, none⟩ ∧ wr.cell? ⟨b, off + j * 5, none⟩ = some (.int .i64 t.kind) ∧ wr.cell? ⟨b, off + j * 5 + 1, none⟩ = some (.int .i64 t.op) ∧ wr.cell? ⟨b, off + j * 5 + 2, none⟩ = some (.string t.text) ∧ wr.cell? ⟨b, off + j * 5 + 3, none⟩ = some (.string t.other) ∧
      wr.cell? ⟨b, off + j * 5 + 4, none⟩ = some (.slice K t.kids.length kc) ∧ IntsIn wr w.heap.size (.slice K t.kids.length kc) t.kids := by
  obtain ⟨A', c', e, _, _, hc, _⟩ := h
  obtain ⟨rfl, _, _⟩ := Value.slice.inj e
  obtain ⟨b, off, hA, hlt, hd⟩ := hc (by have := (List.getElem?_eq_some_iff.1 ht).1; omega)
  obtain ⟨kv, e0, e1, e2, e3, e4, hK⟩ := hd j t ht
  have hK2 := hK.keep hb (Nat.le_refl _)
  obtain ⟨K, kc, rfl, r⟩ := hK
  have k : ∀ o, wr.cell? ⟨b, o, none⟩ = w.cell? ⟨b, o, none⟩ := fun o => hb.cell (p := ⟨b, o, none⟩) hlt
  exact ⟨b, off, K, kc, hA, (k _).trans e0, (k _).trans e1, (k _).trans e2, (k _).trans e3, (k _).trans e4, hK2⟩
set_option maxRecDepth 100000 in
set_option maxHeartbeats 1000000 in
theorem s_ints (v1 v2 : Value) (l1 l2 : List Int) (w : World) (h1 : IntsIn w w.heap.size v1 l1) (h2 : IntsIn w w.heap.size v2 l2) : Calls Try.prog 114 #[v1, v2] w (RetBool w (allB intEq l1 l2)) := by
  have g1 := Lib.hid h1
  have g2 := Lib.hid h2
  obtain ⟨A1, c1, rfl, hlc1, hcm1, r1⟩ := h1
  obtain ⟨A2, c2, rfl, hlc2, hcm2, r2⟩ := h2
  unfold maxLen at hcm1 hcm2
  clear r1 r2
  obtain ⟨n, hn⟩ : ∃ n, l1.length = n := ⟨_, rfl⟩
  obtain ⟨m, hm⟩ : ∃ n, l2.length = n := ⟨_, rfl⟩
  rw [hn] at hlc1 g1
  rw [hm] at hlc2 g2
  rw [hn, hm]
  have hnH := Lib.hid hn
  have hmH := Lib.hid hm
  clear hn hm
  by_cases hnm : n = m
  · subst hnm
    obtain ⟨R, hR⟩ : ∃ R, allB intEq l1 l2 = R := ⟨_, rfl⟩
    rw [hR]
    have hRH := Lib.hid hR
    clear hR
    go_enter Try.func114, Try.ntmps114
    go_wp2_with fail
    go_loopw [5] (fun i wr => ∃ (j : Nat), j ≤ n ∧ Hid (∀ t x y, t < j → l1[t]? = some x → l2[t]? = some y → intEq x y = true) ∧ i = .int .i64 j ∧ Below w.heap.size w wr) (fun i _ => (n - (intOf i).toNat))
    case atStart => exact ⟨0, by omega, (fun t x y h => by omega : ∀ t x y, t < 0 → _), by go_num, Below.refl _ _⟩
    case round =>
      obtain ⟨j, hj, hd, rfl, hb⟩ := hrel
      by_cases hlt : j < n
      · obtain ⟨t, ht⟩ : ∃ t, l1[j]? = some t := ⟨l1[j]'(by rw [hnH.out]; exact hlt), List.getElem?_eq_getElem _⟩
        obtain ⟨s, hs⟩ : ∃ t, l2[j]? = some t := ⟨l2[j]'(by rw [hmH.out]; exact hlt), List.getElem?_eq_getElem _⟩
        obtain ⟨b1, o1, rfl, e0⟩ := g1.out.at hb ht
        obtain ⟨b2, o2, rfl, f0⟩ := g2.out.at hb hs
        have hno := fun (h : intEq t s = false) => allB_no ht hs h
        have hst : intEq t s = true → Hid (∀ i x y, i < j + 1 → l1[i]? = some x → l2[i]? = some y → intEq x y = true) := fun h i x y hi hx hy => by
          by_cases e : i = j
          · subst e
            rw [ht] at hx; rw [hs] at hy
            rw [← Option.some.inj hx, ← Option.some.inj hy]; exact h
          · exact hd.out i x y (by omega) hx hy
        clear ht hs
        cases hk : t == s
        · have hR := Lib.hid (hno hk)
          clear hno hst
          have hRF : R = false := by rw [← hRH.out, hR.out]
          have hk' : (t != s) = true := by rw [bne, hk]; rfl
          clear hk
          subst hRF
          go_wp2_with fail
          go_quiet (fail)
          have hb := below_drewN hb nq
          generalize wr.drewN nq = w2 at hb ⊢
          go_wp2_with fail
          go_ret
          exact ⟨rfl, hb⟩
        · have hst := hst hk
          have hk' := eq_of_beq hk
          rw [hk'] at e0
          clear hno hk hk'
          go_wp2_with fail
          go_quiet (fail)
          have hb := below_drewN hb nq
          generalize wr.drewN nq = w2 at hb ⊢
          go_wp2_with fail
          go_roundw
          case rel => exact ⟨j + 1, by omega, hst, by go_num, hb⟩
          case measure => simp [intOf]; omega
      · obtain rfl : j = n := by omega
        have hR : Hid (allB intEq l1 l2 = true) := allB_yes (by rw [hnH.out, hmH.out]) fun i x y hx hy => hd.out i x y (by have := (List.getElem?_eq_some_iff.1 hx).1; have := hnH.out; omega) hx hy
        have hRT : R = true := by rw [← hRH.out, hR.out]
        subst hRT
        go_wp2_with fail
        go_ret
        exact ⟨rfl, hb⟩
  · have hR : allB intEq l1 l2 = false := allB_len (by rw [hnH.out, hmH.out]; exact hnm)
    rw [hR]
    clear hR
    have hq : ((n : Int) != (m : Int)) = true := by simp; omega
    go_enter Try.func114, Try.ntmps114
    go_wp2_with fail
    go_ret
    exact ⟨rfl, Below.refl _ _⟩
set_option maxRecDepth 100000 in
set_option maxHeartbeats 4000000 in
theorem s_sameTree (v1 v2 : Value) (l1 l2 : List PNode) (w : World) (h1 : NodesIn w w.heap.size v1 l1) (h2 : NodesIn w w.heap.size v2 l2) : Calls Try.prog 73 #[v1, v2] w (RetBool w (allB nodeEq l1 l2)) := by
  have g1 := Lib.hid h1
  have g2 := Lib.hid h2
  obtain ⟨A1, c1, rfl, hlc1, hcm1, r1⟩ := h1
  obtain ⟨A2, c2, rfl, hlc2, hcm2, r2⟩ := h2
  unfold maxLen at hcm1 hcm2
  clear r1 r2
  obtain ⟨n, hn⟩ : ∃ n, l1.length = n := ⟨_, rfl⟩
  obtain ⟨m, hm⟩ : ∃ n, l2.length = n := ⟨_, rfl⟩
  rw [hn] at hlc1 g1
  rw [hm] at hlc2 g2
  rw [hn, hm]
  have hnH := Lib.hid hn
  have hmH := Lib.hid hm
  clear hn hm
  by_cases hnm : n = m
  · subst hnm
    obtain ⟨R, hR⟩ : ∃ R, allB nodeEq l1 l2 = R := ⟨_, rfl⟩
    rw [hR]
    have hRH := Lib.hid hR
    clear hR
    go_enter Try.func73, Try.ntmps73
    go_wp2_with fail
    go_loopw [5] (fun i wr => ∃ (j : Nat), j ≤ n ∧ Hid (∀ t x y, t < j → l1[t]? = some x → l2[t]? = some y → nodeEq x y = true) ∧ i = .int .i64 j ∧ Below w.heap.size w wr) (fun i _ => (n - (intOf i).toNat))
    case atStart => exact ⟨0, by omega, (fun t x y h => by omega : ∀ t x y, t < 0 → _), by go_num, Below.refl _ _⟩
    case round =>
      obtain ⟨j, hj, hd, rfl, hb⟩ := hrel
      by_cases hlt : j < n
      · obtain ⟨t, ht⟩ : ∃ t, l1[j]? = some t := ⟨l1[j]'(by rw [hnH.out]; exact hlt), List.getElem?_eq_getElem _⟩
        obtain ⟨s, hs⟩ : ∃ t, l2[j]? = some t := ⟨l2[j]'(by rw [hmH.out]; exact hlt), List.getElem?_eq_getElem _⟩
        obtain ⟨b1, o1, K1, kc1, rfl, e0, e1, e2, e3, e4, hK1⟩ := g1.out.at hb ht
        obtain ⟨b2, o2, K2, kc2, rfl, f0, f1, f2, f3, f4, hK2⟩ := g2.out.at hb hs
        have hL1 := Lib.hid (hK1.more hb.size)
        have hL2 := Lib.hid (hK2.more hb.size)
        clear hK1 hK2
        have hno := fun (h : nodeEq t s = false) => allB_no ht hs h
        have hst : nodeEq t s = true → Hid (∀ i x y, i < j + 1 → l1[i]? = some x → l2[i]? = some y → nodeEq x y = true) := fun h i x y hi hx hy => by
          by_cases e : i = j
          · subst e
            rw [ht] at hx; rw [hs] at hy
            rw [← Option.some.inj hx, ← Option.some.inj hy]; exact h
          · exact hd.out i x y (by omega) hx hy
        clear ht hs
        cases hk : t.kind == s.kind
        · have hR := Lib.hid (hno (by rw [nodeEq, hk]; rfl))
          clear hno hst
          have hRF : R = false := by rw [← hRH.out, hR.out]
          have hq : (t.kind != s.kind) = true := by rw [bne, hk]; rfl
          clear hk
          subst hRF
          go_wp2_with fail
          go_quiet (fail)
          have hb := below_drewN hb nq
          generalize wr.drewN nq = w2 at hb ⊢
          go_wp2_with fail
          go_ret
          exact ⟨rfl, hb⟩
        · have hk' := eq_of_beq hk
          rw [hk'] at e0
          clear hk'
          cases ho : t.op == s.op
          · have hR := Lib.hid (hno (by rw [nodeEq, hk, ho]; rfl))
            clear hno hst
            have hRF : R = false := by rw [← hRH.out, hR.out]
            have hq : (t.op != s.op) = true := by rw [bne, ho]; rfl
            clear hk ho
            subst hRF
            go_wp2_with fail
            go_quiet (fail)
            have hb := below_drewN hb nq
            generalize wr.drewN nq = w2 at hb ⊢
            go_wp2_with fail
            go_ret
            exact ⟨rfl, hb⟩
          · have ho' := eq_of_beq ho
            rw [ho'] at e1
            clear ho'
            cases hx : t.text.toList == s.text.toList
            · have hR := Lib.hid (hno (by rw [nodeEq, hk, ho, hx]; rfl))
              clear hno hst
              have hRF : R = false := by rw [← hRH.out, hR.out]
              clear hk ho
              subst hRF
              go_wp2_with fail
              go_quiet (fail)
              have hb := below_drewN hb nq
              generalize wr.drewN nq = w2 at hb ⊢
              go_wp2_with fail
              go_ret
              exact ⟨rfl, hb⟩
            · skip
              cases hy : t.other.toList == s.other.toList
              · have hR := Lib.hid (hno (by rw [nodeEq, hk, ho, hx, hy]; rfl))
                clear hno hst
                have hRF : R = false := by rw [← hRH.out, hR.out]
                clear hk ho
                subst hRF
                go_wp2_with fail
                go_quiet (fail)
                have hb := below_drewN hb nq
                generalize wr.drewN nq = w2 at hb ⊢
                go_wp2_with fail
                go_ret
                exact ⟨rfl, hb⟩
              · skip
                obtain ⟨a, ha⟩ : ∃ a, allB intEq t.kids s.kids = a := ⟨_, rfl⟩
                have hcl := fun W (hW : Below wr.heap.size wr W) => s_ints _ _ _ _ W ((hL1.out.keep hW (Nat.le_refl _)).more hW.size) ((hL2.out.keep hW (Nat.le_refl _)).more hW.size)
                rw [ha] at hcl
                have hva : nodeEq t s = a := by rw [nodeEq, hk, ho, hx, hy, ha]; rfl
                clear hk ho ha hL1 hL2
                cases a
                · have hR := Lib.hid (hno hva)
                  have hRF : R = false := by rw [← hRH.out, hR.out]
                  subst hRF
                  clear hno hst hva
                  go_wp2_with fail
                  go_still_tail 61, (by kernel_rfl)
                  change wpList _ _ _ _ _ wr.drew
                  have hbd : Below w.heap.size w wr.drew := below_drew hb
                  have hcl := hcl wr.drew (below_drew (Below.refl _ _))
                  clear e0 e1 e2 e3 e4 f0 f1 f2 f3 f4 hb
                  generalize wr.drew = w2 at hbd hcl ⊢
                  go_wp2_with fail
                  refine hcl.mono ?_
                  rintro e w3 ⟨rfl, hb3⟩
                  have hb4 := hbd.trans (hb3.mono hbd.size)
                  go_wp2_with fail
                  go_ret
                  exact ⟨rfl, hb4⟩
                · have hst' := hst hva
                  clear hno hst hva
                  go_wp2_with fail
                  go_still_tail 61, (by kernel_rfl)
                  change wpList _ _ _ _ _ wr.drew
                  have hbd : Below w.heap.size w wr.drew := below_drew hb
                  have hcl := hcl wr.drew (below_drew (Below.refl _ _))
                  clear e0 e1 e2 e3 e4 f0 f1 f2 f3 f4 hb
                  generalize wr.drew = w2 at hbd hcl ⊢
                  go_wp2_with fail
                  refine hcl.mono ?_
                  rintro e w3 ⟨rfl, hb3⟩
                  have hb4 := hbd.trans (hb3.mono hbd.size)
                  go_wp2_with fail
                  go_roundw
                  case rel => exact ⟨j + 1, by omega, hst', by go_num, hb4⟩
                  case measure => simp [intOf]; omega
      · obtain rfl : j = n := by omega
        have hR : Hid (allB nodeEq l1 l2 = true) := allB_yes (by rw [hnH.out, hmH.out]) fun i x y hx hy => hd.out i x y (by have := (List.getElem?_eq_some_iff.1 hx).1; have := hnH.out; omega) hx hy
        have hRT : R = true := by rw [← hRH.out, hR.out]
        subst hRT
        go_wp2_with fail
        go_ret
        exact ⟨rfl, hb⟩
  · have hR : allB nodeEq l1 l2 = false := allB_len (by rw [hnH.out, hmH.out]; exact hnm)
    rw [hR]
    clear hR
    have hq : ((n : Int) != (m : Int)) = true := by simp; omega
    go_enter Try.func73, Try.ntmps73
    go_wp2_with fail
    go_ret
    exact ⟨rfl, Below.refl _ _⟩
end Go.Proofs.Ytgbpnnokhdkciaa
