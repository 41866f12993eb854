/- Parens (walks and the walk of the law). -/
import Derived.Test.YtgbpnnokhdkciaaTokKit
import Derived.Test.YtgbpnnokhdkciaaLawsKind
namespace Go.Proofs.Ytgbpnnokhdkciaa
open Go.RowKit
set_option linter.unusedVariables false

/-- token j comes behind a word that calls -/
def aftB (l : List PTok) (j : Nat) : Bool := decide (0 < j) && ((l[j - 1]?.map (·.kind)) == some 7 || (l[j - 1]?.map (·.kind)) == some 8)
def parB (l : List PTok) (j : Nat) : Bool := (l[j]?.map (·.kind)) == some 32 && !aftB l j
def parC (l : List PTok) : Nat → Nat
  | 0 => 0
  | j + 1 => parC l j + (if parB l j = true then 1 else 0)
theorem par_no {l : List PTok} {j : Nat} {t : PTok} (h : l[j]? = some t) (hk : t.kind ≠ 32) : parC l (j + 1) = parC l j := by
  have : parB l j = false := by simp [parB, h, hk]
  simp [parC, this]
theorem par_zero {l : List PTok} {t : PTok} (h : l[0]? = some t) (hk : t.kind = 32) : parC l (0 + 1) = parC l 0 + 1 := by
  have : parB l 0 = true := by simp [parB, aftB, h, hk]
  simp [parC, this]
theorem par_aft {l : List PTok} {j : Nat} {t p : PTok} (h : l[j]? = some t) (hk : t.kind = 32) (h0 : 0 < j) (hp : l[j - 1]? = some p) (hq : p.kind = 7 ∨ p.kind = 8) : parC l (j + 1) = parC l j := by
  have : parB l j = false := by rcases hq with hq | hq <;> simp [parB, aftB, h, hk, hp, h0, hq]
  simp [parC, this]
theorem par_free {l : List PTok} {j : Nat} {t p : PTok} (h : l[j]? = some t) (hk : t.kind = 32) (hp : l[j - 1]? = some p) (h7 : p.kind ≠ 7) (h8 : p.kind ≠ 8) : parC l (j + 1) = parC l j + 1 := by
  have : parB l j = true := by simp [parB, aftB, h, hk, hp, h7, h8]
  simp [parC, this]
theorem aft_eq {l : List PTok} {j : Nat} {p : PTok} (h0 : 0 < j) (hp : l[j - 1]? = some p) : aftB l j = (p.kind == 7 || p.kind == 8) := by
  simp [aftB, hp, h0]
/-- the kinds of the tokens of a slice, read in a later world -/
theorem ToksIn.kind {w wr : World} {A : Option Addr} {l : List PTok} {n c : Nat} (h : ToksIn w w.heap.size (.slice A n c) l) (hb : Below w.heap.size w wr) {j : Nat} {t : PTok} (ht : l[j]? = some t) : ∃ b off, A = some ⟨b, off, none⟩ ∧ wr.cell? ⟨b, off + j * 3, none⟩ = some (.int .i64 t.kind) := by
  obtain ⟨A', c', e, _, _, hc, _⟩ := h
  obtain ⟨rfl, _, _⟩ := Value.slice.inj e
  obtain ⟨b, off, hA, hlt, hd⟩ := hc (by have := (List.getElem?_eq_some_iff.1 ht).1; omega)
  exact ⟨b, off, hA, (hb.cell (p := ⟨b, off + j * 3, none⟩) hlt).trans (hd j t ht).1⟩
set_option maxRecDepth 100000 in
set_option maxHeartbeats 1000000 in
theorem s_parens (v : Value) (l : List PTok) (w : World) (h : ToksIn w w.heap.size v l) : Calls Try.prog 60 #[v] w (RetInt w (parC l l.length)) := by
  have hH := Lib.hid h
  obtain ⟨A, c, rfl, hlc, hcm, r, r2⟩ := h
  clear r r2
  unfold maxLen at hcm
  obtain ⟨n, hn⟩ : ∃ n, l.length = n := ⟨_, rfl⟩
  rw [hn] at hlc hH ⊢
  have hnH := Lib.hid hn
  clear hn
  go_enter Try.func60, Try.ntmps60
  go_wp2_with fail
  go_loopw [3, 4] (fun x i wr => ∃ (j m : Nat), j ≤ n ∧ m ≤ j ∧ Hid (m = parC l j) ∧ x = .int .i64 m ∧ i = .int .i64 j ∧ Below w.heap.size w wr) (fun _ i _ => (n - (intOf i).toNat))
  case atStart => exact ⟨0, 0, by omega, by omega, by show _ = _; simp [parC], by go_num, by go_num, Below.refl _ _⟩
  case round =>
    obtain ⟨j, m, hj, hm, hd, rfl, rfl, hb⟩ := hrel
    by_cases hlt : j < n
    · obtain ⟨t, ht⟩ : ∃ t, l[j]? = some t := ⟨l[j]'(by rw [hnH.out]; exact hlt), List.getElem?_eq_getElem _⟩
      obtain ⟨b, off, rfl, e0⟩ := hH.out.kind hb ht
      have htH := Lib.hid ht
      clear ht
      by_cases hk : t.kind = 32
      · rw [hk] at e0
        have hkH := Lib.hid hk
        clear hk
        by_cases hz : j = 0
        · subst hz
          rw [Nat.zero_mul, Nat.add_zero] at e0
          have hst := Lib.hid (par_zero htH.out hkH.out)
          go_wp2_with fail
          go_roundw
          case rel => exact ⟨0 + 1, m + 1, by omega, by omega, by show _ = _; rw [hst.out, ← hd.out], by go_num, by go_num, hb⟩
          case measure => simp [intOf]; omega
        · obtain ⟨p, hp⟩ : ∃ p, l[j - 1]? = some p := ⟨l[j - 1]'(by rw [hnH.out]; omega), List.getElem?_eq_getElem _⟩
          obtain ⟨b', off', e', f0⟩ := hH.out.kind hb hp
          obtain ⟨rfl, rfl⟩ : b = b' ∧ off = off' := by cases e'; exact ⟨rfl, rfl⟩
          clear e'
          have hpH := Lib.hid hp
          clear hp
          by_cases h7 : p.kind = 7
          · rw [h7] at f0
            have hst := Lib.hid (par_aft htH.out hkH.out (by omega) hpH.out (Or.inl h7))
            clear h7
            go_wp2_with fail
            go_roundw
            case rel => exact ⟨j + 1, m, by omega, by omega, by show _ = _; rw [hst.out, ← hd.out], by go_num, by go_num, hb⟩
            case measure => simp [intOf]; omega
          · by_cases h8 : p.kind = 8
            · rw [h8] at f0
              have hst := Lib.hid (par_aft htH.out hkH.out (by omega) hpH.out (Or.inr h8))
              clear h7 h8
              go_wp2_with fail
              go_roundw
              case rel => exact ⟨j + 1, m, by omega, by omega, by show _ = _; rw [hst.out, ← hd.out], by go_num, by go_num, hb⟩
              case measure => simp [intOf]; omega
            · have hst := Lib.hid (par_free htH.out hkH.out hpH.out h7 h8)
              obtain ⟨y, hy⟩ : ∃ y, p.kind = y := ⟨_, rfl⟩
              rw [hy] at f0 h7 h8
              have q7 : (y != 7) = true := by simpa using h7
              have q8 : (y != 8) = true := by simpa using h8
              clear hy
              go_wp2_with fail
              go_roundw
              case rel => exact ⟨j + 1, m + 1, by omega, by omega, by show _ = _; rw [hst.out, ← hd.out], by go_num, by go_num, hb⟩
              case measure => simp [intOf]; omega
      · have hst := Lib.hid (par_no htH.out hk)
        obtain ⟨y, hy⟩ : ∃ y, t.kind = y := ⟨_, rfl⟩
        rw [hy] at e0 hk
        have q7 : (y == 32) = false := by simpa using hk
        clear hy
        go_wp2_with fail
        go_roundw
        case rel => exact ⟨j + 1, m, by omega, by omega, by show _ = _; rw [hst.out, ← hd.out], by go_num, by go_num, hb⟩
        case measure => simp [intOf]; omega
    · obtain rfl : j = n := by omega
      have hfin : Hid ((m : Int) = parC l l.length) := by
        show (m : Int) = _
        rw [hnH.out, ← hd.out]
      go_wp2_with fail
      go_ret
      exact ⟨ret_int (by rw [hfin.out, hnH.out]), hb⟩
set_option maxRecDepth 100000 in
set_option maxHeartbeats 1000000 in
theorem i_after (v : Value) (l : List PTok) (j : Nat) (w0 w : World) (h : ToksIn w0 w0.heap.size v l) (hb : Below w0.heap.size w0 w) (hj : j < l.length) : Calls Try.prog 108 #[v, .int .i64 j] w fun e w' => e = .returned (.bool (aftB l j)) ∧ w = w' := by
  have hH := Lib.hid h
  obtain ⟨A, c, rfl, hlc, hcm, r, r2⟩ := h
  clear r r2
  unfold maxLen at hcm
  obtain ⟨n, hn⟩ : ∃ n, l.length = n := ⟨_, rfl⟩
  rw [hn] at hlc hH hj ⊢
  have hnH := Lib.hid hn
  clear hn
  by_cases hz : j = 0
  · subst hz
    go_enter Try.func108, Try.ntmps108
    go_wp2_with fail
    go_ret
    exact ⟨ret_bool (by simp [aftB]), rfl⟩
  · obtain ⟨p, hp⟩ : ∃ p, l[j - 1]? = some p := ⟨l[j - 1]'(by rw [hnH.out]; omega), List.getElem?_eq_getElem _⟩
    obtain ⟨b, off, rfl, e0⟩ := hH.out.kind hb hp
    have ha := Lib.hid (aft_eq (by omega : 0 < j) hp)
    clear hp
    obtain ⟨y, hy⟩ : ∃ y, p.kind = y := ⟨_, rfl⟩
    rw [hy] at e0 ha
    clear hy
    by_cases h7 : y = 7
    · subst h7
      go_enter Try.func108, Try.ntmps108
      go_wp2_with fail
      go_ret
      exact ⟨ret_bool (by rw [ha.out]; rfl), rfl⟩
    · have q7 : (y == 7) = false := by simpa using h7
      by_cases h8 : y = 8
      · subst h8
        go_enter Try.func108, Try.ntmps108
        go_wp2_with fail
        go_ret
        exact ⟨ret_bool (by rw [ha.out]; rfl), rfl⟩
      · have q8 : (y == 8) = false := by simpa using h8
        go_enter Try.func108, Try.ntmps108
        go_wp2_with fail
        go_ret
        exact ⟨ret_bool (by rw [ha.out, q7, q8]; rfl), rfl⟩
set_option maxRecDepth 100000 in
set_option maxHeartbeats 1000000 in
theorem i_parens (v : Value) (l : List PTok) (w : World) (h : ToksIn w w.heap.size v l) : Calls Try.prog 62 #[v] w (RetInt w (parC l l.length)) := by
  have hH := Lib.hid h
  obtain ⟨A, c, rfl, hlc, hcm, r, r2⟩ := h
  unfold maxLen at hcm
  obtain ⟨n, hn⟩ : ∃ n, l.length = n := ⟨_, rfl⟩
  rw [hn] at hlc hH r ⊢
  have hnH := Lib.hid hn
  clear hn r2
  have hr := Lib.hid r
  clear r
  go_enter Try.func62, Try.ntmps62
  go_wp2_with fail
  go_loopw [3, 8] (fun x i wr => ∃ (j m : Nat), j ≤ n ∧ m ≤ j ∧ Hid (m = parC l j) ∧ x = .int .i64 m ∧ i = .int .i64 j ∧ Below w.heap.size w wr) (fun _ i _ => (n - (intOf i).toNat))
  case atStart => exact ⟨0, 0, by omega, by omega, by show _ = _; simp [parC], by go_num, by go_num, Below.refl _ _⟩
  case round =>
    obtain ⟨j, m, hj, hm, hd, rfl, rfl, hb⟩ := hrel
    by_cases hlt : j < n
    · obtain ⟨t, ht⟩ : ∃ t, l[j]? = some t := ⟨l[j]'(by rw [hnH.out]; exact hlt), List.getElem?_eq_getElem _⟩
      obtain ⟨b, off, hA, hlt2, hc⟩ := hr.out (by omega)
      subst hA
      obtain ⟨e0, e1, e2⟩ := hc j t ht
      have hk : ∀ o, wr.cell? ⟨b, o, none⟩ = w.cell? ⟨b, o, none⟩ := fun o => hb.cell (p := ⟨b, o, none⟩) hlt2
      rw [← hk] at e0 e1 e2
      clear hk hc
      have htH := Lib.hid ht
      clear ht
      by_cases hk : t.kind = 32
      · rw [hk] at e0
        have hst : Hid (parC l (j + 1) = parC l j + (if aftB l j = true then 0 else 1)) := by
          have : parB l j = !aftB l j := by simp [parB, htH.out, hk]
          show _ = _
          simp only [parC, this]
          cases aftB l j <;> simp
        have hkH := Lib.hid hk
        clear hk
        have haf := fun W hW => i_after _ l j w W hH.out hW (by rw [hnH.out]; exact hlt)
        obtain ⟨a, ha⟩ : ∃ a, aftB l j = a := ⟨_, rfl⟩
        rw [ha] at haf hst
        clear ha
        cases a
        · go_wp2_with (go_at_call 108; refine (haf _ (hb.alloc hb.size _)).mono ?_; rintro e w1 ⟨rfl, rfl⟩)
          go_roundw
          case rel => exact ⟨j + 1, m + 1, by omega, by omega, by show _ = _; rw [hst.out, ← hd.out]; rfl, by go_num, by go_num, hb.alloc hb.size _⟩
          case measure => simp [intOf]; omega
        · go_wp2_with (go_at_call 108; refine (haf _ (hb.alloc hb.size _)).mono ?_; rintro e w1 ⟨rfl, rfl⟩)
          go_roundw
          case rel => exact ⟨j + 1, m, by omega, by omega, by show _ = _; rw [hst.out, ← hd.out]; rfl, by go_num, by go_num, hb.alloc hb.size _⟩
          case measure => simp [intOf]; omega
      · have hst := Lib.hid (par_no htH.out hk)
        obtain ⟨y, hy⟩ : ∃ y, t.kind = y := ⟨_, rfl⟩
        rw [hy] at e0 hk
        have q7 : (y == 32) = false := by simpa using hk
        clear hy
        go_wp2_with fail
        go_roundw
        case rel => exact ⟨j + 1, m, by omega, by omega, by show _ = _; rw [hst.out, ← hd.out], by go_num, by go_num, hb.alloc hb.size _⟩
        case measure => simp [intOf]; omega
    · obtain rfl : j = n := by omega
      have hfin : Hid ((m : Int) = parC l l.length) := by
        show (m : Int) = _
        rw [hnH.out, ← hd.out]
      go_wp2_with fail
      go_ret
      exact ⟨ret_int (by rw [hfin.out, hnH.out]), hb⟩
set_option maxRecDepth 100000 in
set_option maxHeartbeats 1000000 in
theorem l_Parens (v0 : Value) (a0 : List PTok) (w : World) (h : ToksIn w w.heap.size v0 a0) : Calls Try.prog 17 #[v0] w fun e w' => e = .returned (.bool true) ∧ Below w.heap.size w w' := by
  by_cases hs : toksBulk a0 ≤ 1048576
  · obtain ⟨q, hq⟩ : ∃ q : Int, subB 1048576 (toksBulk a0) = q := ⟨_, rfl⟩
    have hq0 : 0 ≤ q ∧ q ≤ 1048576 := by rw [← hq, subB_ge (by omega)]; omega
    go_enter Try.func17, Try.ntmps17
    go_wp2_with fail
    refine (l_szTokens _ a0 _ _ (by omega) (by omega) h).mono ?_
    rintro e x1 ⟨rfl, b1⟩
    rw [hq]
    go_wp2_with fail
    refine (l_toTokens _ a0 _ hs ((h.keep b1 (Nat.le_refl _)).more b1.size)).mono ?_
    rintro e x2 ⟨v2, rfl, n2, _, b2⟩
    have c2 := b1.trans (b2.mono b1.size)
    go_wp2_with fail
    refine (s_parens _ a0 _ n2).mono ?_
    rintro e x3 ⟨rfl, b3⟩
    have c3 := c2.trans (b3.mono c2.size)
    go_wp2_with fail
    refine (l_toTokens _ a0 _ hs ((h.keep c3 (Nat.le_refl _)).more c3.size)).mono ?_
    rintro e x4 ⟨v4, rfl, n4, _, b4⟩
    have c4 := c3.trans (b4.mono c3.size)
    go_wp2_with fail
    refine (i_parens _ a0 _ n4).mono ?_
    rintro e x5 ⟨rfl, b5⟩
    have c5 := c4.trans (b5.mono c4.size)
    have m5 := (n4.keep b5 (Nat.le_refl _)).more b5.size
    go_wp2_with fail
    refine (l_toTokens _ a0 _ hs ((h.keep c5 (Nat.le_refl _)).more c5.size)).mono ?_
    rintro e x6 ⟨v6, rfl, n6, _, b6⟩
    have c6 := c5.trans (b6.mono c5.size)
    have m6 := (m5.keep b6 (Nat.le_refl _)).more b6.size
    go_wp2_with fail
    refine (l_eqTokens _ _ a0 _ m6 n6).mono ?_
    rintro e x7 ⟨rfl, b7⟩
    have c7 := c6.trans (b7.mono c6.size)
    go_wp2_with fail
    go_ret
    exact ⟨rfl, c7⟩
  · go_enter Try.func17, Try.ntmps17
    go_wp2_with fail
    refine (l_szTokens _ a0 _ _ (by omega) (by omega) h).mono ?_
    rintro e x1 ⟨rfl, b1⟩
    rw [subB_lt (by omega)]
    go_wp2_with fail
    go_ret
    exact ⟨rfl, b1⟩
end Go.Proofs.Ytgbpnnokhdkciaa
