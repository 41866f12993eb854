/- SameTokens (walks and the walk of the law). -/
import Derived.Test.YtgbpnnokhdkciaaTokKit
import Derived.Test.YtgbpnnokhdkciaaLawsKind
namespace Go.Proofs.Ytgbpnnokhdkciaa
open Go.RowKit
set_option linter.unusedVariables false

def AllEq {α : Type} (f : α → α → Bool) (a b : List α) : Prop := a.length = b.length ∧ ∀ (j : Nat) (x y : α), a[j]? = some x → b[j]? = some y → f x y = true
open Classical in
noncomputable def allB {α : Type} (f : α → α → Bool) (a b : List α) : Bool := decide (AllEq f a b)
open Classical in
theorem allB_len {α : Type} {f : α → α → Bool} {a b : List α} (h : a.length ≠ b.length) : allB f a b = false := by
  unfold allB; exact decide_eq_false fun e => h e.1
open Classical in
theorem allB_no {α : Type} {f : α → α → Bool} {a b : List α} {j : Nat} {x y : α} (hx : a[j]? = some x) (hy : b[j]? = some y) (h : f x y = false) : allB f a b = false := by
  unfold allB; exact decide_eq_false fun e => by rw [e.2 j x y hx hy] at h; cases h
open Classical in
theorem allB_yes {α : Type} {f : α → α → Bool} {a b : List α} (hl : a.length = b.length) (h : ∀ (j : Nat) (x y : α), a[j]? = some x → b[j]? = some y → f x y = true) : allB f a b = true := by
  unfold allB; exact decide_eq_true ⟨hl, h⟩
def tokEq (a b : PTok) : Bool := a.kind == b.kind && a.text.toList == b.text.toList
/-- the cells of token j, read in a later world -/
theorem ToksIn.at {w wr : World} {A : Option Addr} {l : List PTok} {n c : Nat} (h : ToksIn w w.heap.size (.slice A n c) l) (hb : Below w.heap.size w wr) {j : Nat} {t : PTok} (ht : l[j]? = some t) :
    ∃ b off, A = some ⟨b, off, none⟩ ∧ wr.cell? ⟨b, off + j * 3, none⟩ = some (.int .i64 t.kind) ∧ wr.cell? ⟨b, off + j * 3 + 1, none⟩ = some (.string t.text) ∧ wr.cell? ⟨b, off + j * 3 + 2, none⟩ = some (.int .i64 t.at_) := by
  obtain ⟨A', c', e, _, _, hc, _⟩ := h
  obtain ⟨rfl, _, _⟩ := Value.slice.inj e
  obtain ⟨b, off, hA, hlt, hd⟩ := hc (by have := (List.getElem?_eq_some_iff.1 ht).1; omega)
  obtain ⟨e0, e1, e2⟩ := hd j t ht
  exact ⟨b, off, hA, (hb.cell (p := ⟨b, off + j * 3, none⟩) hlt).trans e0, (hb.cell (p := ⟨b, off + j * 3 + 1, none⟩) hlt).trans e1, (hb.cell (p := ⟨b, off + j * 3 + 2, none⟩) hlt).trans e2⟩
def RetBool (w : World) (x : Bool) (e : Ending) (w' : World) : Prop := e = .returned (.bool x) ∧ Below w.heap.size w w'
theorem cell_below {w : World} {b o : Nat} {v : Value} (h : w.cell? ⟨b, o, none⟩ = some v) : b < w.heap.size := by
  by_cases hlt : b < w.heap.size
  · exact hlt
  · rw [World.cell?] at h
    simp [Array.getElem?_eq_none (Nat.le_of_not_lt hlt)] at h
theorem below_drew {B : Nat} {a w : World} (h : Below B a w) : Below B a w.drew := below_drewN h 1
set_option maxRecDepth 100000 in
set_option maxHeartbeats 1000000 in
theorem s_sameTok (v1 v2 : Value) (l1 l2 : List PTok) (w : World) (h1 : ToksIn w w.heap.size v1 l1) (h2 : ToksIn w w.heap.size v2 l2) : Calls Try.prog 66 #[v1, v2] w (RetBool w (allB tokEq l1 l2)) := by
  have g1 := Lib.hid h1
  have g2 := Lib.hid h2
  obtain ⟨A1, c1, rfl, hlc1, hcm1, r1⟩ := h1
  obtain ⟨A2, c2, rfl, hlc2, hcm2, r2⟩ := h2
  unfold maxLen at hcm1 hcm2
  clear r1 r2
  obtain ⟨n, hn⟩ : ∃ n, l1.length = n := ⟨_, rfl⟩
  obtain ⟨m, hm⟩ : ∃ n, l2.length = n := ⟨_, rfl⟩
  rw [hn] at hlc1 g1
  rw [hm] at hlc2 g2
  rw [hn, hm]
  have hnH := Lib.hid hn
  have hmH := Lib.hid hm
  clear hn hm
  by_cases hnm : n = m
  · subst hnm
    obtain ⟨R, hR⟩ : ∃ R, allB tokEq l1 l2 = R := ⟨_, rfl⟩
    rw [hR]
    have hRH := Lib.hid hR
    clear hR
    go_enter Try.func66, Try.ntmps66
    go_wp2_with fail
    go_loopw [5] (fun i wr => ∃ (j : Nat), j ≤ n ∧ Hid (∀ t x y, t < j → l1[t]? = some x → l2[t]? = some y → tokEq x y = true) ∧ i = .int .i64 j ∧ Below w.heap.size w wr) (fun i _ => (n - (intOf i).toNat))
    case atStart => exact ⟨0, by omega, (fun t x y h => by omega : ∀ t x y, t < 0 → _), by go_num, Below.refl _ _⟩
    case round =>
      obtain ⟨j, hj, hd, rfl, hb⟩ := hrel
      by_cases hlt : j < n
      · obtain ⟨t, ht⟩ : ∃ t, l1[j]? = some t := ⟨l1[j]'(by rw [hnH.out]; exact hlt), List.getElem?_eq_getElem _⟩
        obtain ⟨s, hs⟩ : ∃ t, l2[j]? = some t := ⟨l2[j]'(by rw [hmH.out]; exact hlt), List.getElem?_eq_getElem _⟩
        obtain ⟨b1, o1, rfl, e0, e1, e2⟩ := g1.out.at hb ht
        obtain ⟨b2, o2, rfl, f0, f1, f2⟩ := g2.out.at hb hs
        have hno := fun (h : tokEq t s = false) => allB_no ht hs h
        have hst : tokEq t s = true → Hid (∀ i x y, i < j + 1 → l1[i]? = some x → l2[i]? = some y → tokEq x y = true) := fun h i x y hi hx hy => by
          by_cases e : i = j
          · subst e
            rw [ht] at hx; rw [hs] at hy
            rw [← Option.some.inj hx, ← Option.some.inj hy]; exact h
          · exact hd.out i x y (by omega) hx hy
        clear ht hs
        cases hk : t.kind == s.kind
        · have hR := Lib.hid (hno (by rw [tokEq, hk]; rfl))
          clear hno hst
          have hRF : R = false := by rw [← hRH.out, hR.out]
          have hk' : (t.kind != s.kind) = true := by rw [bne, hk]; rfl
          clear hk
          subst hRF
          go_wp2_with fail
          go_quiet (fail)
          have hb := below_drewN hb nq
          generalize wr.drewN nq = w2 at hb ⊢
          go_wp2_with fail
          go_ret
          exact ⟨rfl, hb⟩
        · have hk' := eq_of_beq hk
          rw [hk'] at e0
          cases hx : t.text.toList == s.text.toList
          · have hR := Lib.hid (hno (by rw [tokEq, hk, hx]; rfl))
            clear hno hst
            have hRF : R = false := by rw [← hRH.out, hR.out]
            clear hk hk'
            subst hRF
            go_wp2_with fail
            go_quiet (fail)
            have hb := below_drewN hb nq
            generalize wr.drewN nq = w2 at hb ⊢
            go_wp2_with fail
            go_ret
            exact ⟨rfl, hb⟩
          · have hst := hst (by rw [tokEq, hk, hx]; rfl)
            clear hno hk hk'
            go_wp2_with fail
            go_quiet (fail)
            have hb := below_drewN hb nq
            generalize wr.drewN nq = w2 at hb ⊢
            go_wp2_with fail
            go_roundw
            case rel => exact ⟨j + 1, by omega, hst, by go_num, hb⟩
            case measure => simp [intOf]; omega
      · obtain rfl : j = n := by omega
        have hR : Hid (allB tokEq l1 l2 = true) := allB_yes (by rw [hnH.out, hmH.out]) fun i x y hx hy => hd.out i x y (by have := (List.getElem?_eq_some_iff.1 hx).1; have := hnH.out; omega) hx hy
        have hRT : R = true := by rw [← hRH.out, hR.out]
        subst hRT
        go_wp2_with fail
        go_ret
        exact ⟨rfl, hb⟩
  · have hR : allB tokEq l1 l2 = false := allB_len (by rw [hnH.out, hmH.out]; exact hnm)
    rw [hR]
    clear hR
    have hq : ((n : Int) != (m : Int)) = true := by simp; omega
    go_enter Try.func66, Try.ntmps66
    go_wp2_with fail
    go_ret
    exact ⟨rfl, Below.refl _ _⟩
set_option maxRecDepth 100000 in
theorem i_tokEq (a b : PTok) (w : World) : Calls Try.prog 113 #[.agg #[.int .i64 a.kind, .string a.text, .int .i64 a.at_], .agg #[.int .i64 b.kind, .string b.text, .int .i64 b.at_]] w (RetBool w (tokEq a b)) := by
  have hb : Below w.heap.size w ((w.alloc (.cells #[.int .i64 a.kind, .string a.text, .int .i64 a.at_] 90)).alloc (.cells #[.int .i64 b.kind, .string b.text, .int .i64 b.at_] 90)) := ((Below.refl _ _).alloc (Nat.le_refl _) _).alloc (by simp) _
  cases hk : a.kind == b.kind
  · have hR : tokEq a b = false := by rw [tokEq, hk]; rfl
    rw [hR]
    clear hR
    go_enter Try.func113, Try.ntmps113
    go_wp2_with fail
    go_ret
    exact ⟨rfl, hb⟩
  · cases hx : a.text.toList == b.text.toList
    · have hR : tokEq a b = false := by rw [tokEq, hk, hx]; rfl
      rw [hR]
      clear hR
      go_enter Try.func113, Try.ntmps113
      go_wp2_with fail
      go_ret
      exact ⟨rfl, hb⟩
    · have hR : tokEq a b = true := by rw [tokEq, hk, hx]; rfl
      rw [hR]
      clear hR
      go_enter Try.func113, Try.ntmps113
      go_wp2_with fail
      go_ret
      exact ⟨rfl, hb⟩
set_option maxRecDepth 100000 in
set_option maxHeartbeats 1000000 in
theorem eqf_tok (v1 v2 : Value) (l1 l2 : List PTok) (w : World) (h1 : ToksIn w w.heap.size v1 l1) (h2 : ToksIn w w.heap.size v2 l2) : Calls Try.prog 112 #[v1, v2, .func (.func 113) #[] #[]] w (RetBool w (allB tokEq l1 l2)) := by
  have g1 := Lib.hid h1
  have g2 := Lib.hid h2
  obtain ⟨A1, c1, rfl, hlc1, hcm1, r1⟩ := h1
  obtain ⟨A2, c2, rfl, hlc2, hcm2, r2⟩ := h2
  unfold maxLen at hcm1 hcm2
  clear r1 r2
  obtain ⟨n, hn⟩ : ∃ n, l1.length = n := ⟨_, rfl⟩
  obtain ⟨m, hm⟩ : ∃ n, l2.length = n := ⟨_, rfl⟩
  rw [hn] at hlc1 g1
  rw [hm] at hlc2 g2
  rw [hn, hm]
  have hnH := Lib.hid hn
  have hmH := Lib.hid hm
  clear hn hm
  by_cases hnm : n = m
  · subst hnm
    obtain ⟨R, hR⟩ : ∃ R, allB tokEq l1 l2 = R := ⟨_, rfl⟩
    rw [hR]
    have hRH := Lib.hid hR
    clear hR
    go_enter Try.func112, Try.ntmps112
    go_wp2_with fail
    go_loopw [17] (fun i wr => ∃ (j : Nat), j ≤ n ∧ Hid (∀ t x y, t < j → l1[t]? = some x → l2[t]? = some y → tokEq x y = true) ∧ i = .int .i64 j ∧ Below w.heap.size w wr) (fun i _ => (n - (intOf i).toNat))
    case atStart => exact ⟨0, by omega, (fun t x y h => by omega : ∀ t x y, t < 0 → _), by go_num, Below.refl _ _⟩
    case round =>
      obtain ⟨j, hj, hd, rfl, hb⟩ := hrel
      by_cases hlt : j < n
      · obtain ⟨t, ht⟩ : ∃ t, l1[j]? = some t := ⟨l1[j]'(by rw [hnH.out]; exact hlt), List.getElem?_eq_getElem _⟩
        obtain ⟨s, hs⟩ : ∃ t, l2[j]? = some t := ⟨l2[j]'(by rw [hmH.out]; exact hlt), List.getElem?_eq_getElem _⟩
        obtain ⟨b1, o1, rfl, e0, e1, e2⟩ := g1.out.at hb ht
        obtain ⟨b2, o2, rfl, f0, f1, f2⟩ := g2.out.at hb hs
        have hl1 : b1 < wr.heap.size := by have := cell_below e0; exact this
        have hl2 : b2 < wr.heap.size := by have := cell_below f0; exact this
        have hno := fun (h : tokEq t s = false) => allB_no ht hs h
        have hst : tokEq t s = true → Hid (∀ i x y, i < j + 1 → l1[i]? = some x → l2[i]? = some y → tokEq x y = true) := fun h i x y hi hx hy => by
          by_cases e : i = j
          · subst e
            rw [ht] at hx; rw [hs] at hy
            rw [← Option.some.inj hx, ← Option.some.inj hy]; exact h
          · exact hd.out i x y (by omega) hx hy
        have hcl := fun W => i_tokEq t s W
        clear ht hs
        cases hk : tokEq t s
        · have hR := Lib.hid (hno hk)
          have hRF : R = false := by rw [← hRH.out, hR.out]
          rw [hk] at hcl
          clear hno hst hk
          subst hRF
          go_wp2_with fail
          refine (hcl _).mono ?_
          rintro e w2 ⟨rfl, hb2⟩
          have hb3 : Below w.heap.size w w2 := (((hb.alloc hb.size _).alloc (by have := hb.size; simp; omega) _)).trans (hb2.mono (by have := hb.size; simp; omega))
          go_wp2_with fail
          go_ret
          exact ⟨rfl, hb3⟩
        · have hst := hst hk
          rw [hk] at hcl
          clear hno hk
          go_wp2_with fail
          refine (hcl _).mono ?_
          rintro e w2 ⟨rfl, hb2⟩
          have hb3 : Below w.heap.size w w2 := (((hb.alloc hb.size _).alloc (by have := hb.size; simp; omega) _)).trans (hb2.mono (by have := hb.size; simp; omega))
          go_wp2_with fail
          go_roundw
          case rel => exact ⟨j + 1, by omega, hst, by go_num, hb3⟩
          case measure => simp [intOf]; omega
      · obtain rfl : j = n := by omega
        have hR : Hid (allB tokEq l1 l2 = true) := allB_yes (by rw [hnH.out, hmH.out]) fun i x y hx hy => hd.out i x y (by have := (List.getElem?_eq_some_iff.1 hx).1; have := hnH.out; omega) hx hy
        have hRT : R = true := by rw [← hRH.out, hR.out]
        subst hRT
        go_wp2_with fail
        go_ret
        exact ⟨rfl, hb⟩
  · have hR : allB tokEq l1 l2 = false := allB_len (by rw [hnH.out, hmH.out]; exact hnm)
    rw [hR]
    clear hR
    have hq : ((n : Int) != (m : Int)) = true := by simp; omega
    go_enter Try.func112, Try.ntmps112
    go_wp2_with fail
    go_ret
    exact ⟨rfl, Below.refl _ _⟩
set_option maxRecDepth 100000 in
theorem i_sameTok (v1 v2 : Value) (l1 l2 : List PTok) (w : World) (h1 : ToksIn w w.heap.size v1 l1) (h2 : ToksIn w w.heap.size v2 l2) : Calls Try.prog 67 #[v1, v2] w (RetBool w (allB tokEq l1 l2)) := by
  go_enter Try.func67, Try.ntmps67
  go_wp2_with fail
  refine (eqf_tok v1 v2 l1 l2 w h1 h2).mono ?_
  rintro e w2 ⟨rfl, hb2⟩
  go_wp2_with fail
  go_ret
  exact ⟨rfl, hb2⟩
end Go.Proofs.Ytgbpnnokhdkciaa
