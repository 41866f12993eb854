/- The token at a place of a text, in the reference (walk). -/
import Derived.Test.YtdajhcammnlonaaDoorLexWord
import Derived.Test.YtdajhcammnlonaaDoorTokAtPure
import Derived.Test.YtdajhcammnlonaaDoorTokAtI
namespace Go.Proofs.YtdajhcammnlonaaDoor
open Go.RowKit
set_option linter.unusedVariables false
/-- two blocks of three cells, one behind the other, as a call has laid them -/
structure Two2 (x : World) (g : Nat) (u0 u1 u2 v0 v1 v2 : Value) : Prop where
  n0 : x.cell? ⟨g, 0, none⟩ = some u0
  n1 : x.cell? ⟨g, 1, none⟩ = some u1
  n2 : x.cell? ⟨g, 2, none⟩ = some u2
  m0 : x.cell? ⟨g + 1, 0, none⟩ = some v0
  m1 : x.cell? ⟨g + 1, 1, none⟩ = some v1
  m2 : x.cell? ⟨g + 1, 2, none⟩ = some v2
  fg : ∀ i, x.frozen? ⟨g, i, none⟩ = false
  fh : ∀ i, x.frozen? ⟨g + 1, i, none⟩ = false
  lt : g + 1 < x.heap.size
theorem two2_made (w y : World) (u0 u1 u2 v0 v1 v2 : Value) (t : TypeId) (hb : Below ((w.alloc (.cells #[u0, u1, u2] t)).alloc (.cells #[v0, v1, v2] t)).heap.size ((w.alloc (.cells #[u0, u1, u2] t)).alloc (.cells #[v0, v1, v2] t)) y) : Two2 y w.heap.size u0 u1 u2 v0 v1 v2 ∧ Below w.heap.size w y := by
  have h1 := Has.made (w.alloc (.cells #[u0, u1, u2] t)) t #[v0, v1, v2]
  rw [show (w.alloc (.cells #[u0, u1, u2] t)).heap.size = w.heap.size + 1 by simp] at h1
  have h0 := (Has.made w t #[u0, u1, u2]).alloc (.cells #[v0, v1, v2] t)
  have k0 := h0.below hb h0.lt
  have k1 := h1.below hb h1.lt
  refine ⟨⟨k0.get rfl, k0.get rfl, k0.get rfl, k1.get rfl, k1.get rfl, k1.get rfl, k0.free, k1.free, k1.lt⟩, ?_⟩
  exact (((Below.refl w.heap.size w).alloc (Nat.le_refl _) _).alloc (by simp) _).trans (hb.mono (by simp; omega))
set_option maxRecDepth 100000 in
set_option maxHeartbeats 2000000 in
theorem s_next (s : ByteArray) (a : Nat) (before : Int) (ere : Bool) (w : World) (hs : s.size ≤ 16777216) (ha : a < s.size) (hE0 : ere = !endsB before) :
    Calls Tryd.prog 108 #[.string s, .int .i64 (a : Int), .bool ere] w fun x w' => x = .returned (.agg #[.int .i64 (tokAt s a before).kind, .string (tokAt s a before).text, .int .i64 a]) ∧ Below w.heap.size w w' := by
  have hE := Lib.hid hE0
  clear hE0
  have hbn0 := bAt_nat ha
  obtain ⟨cb, h8⟩ : ∃ cb : Int, ((s[a]'ha).toNat : Int) = cb := ⟨_, rfl⟩
  have hcb : 0 ≤ cb ∧ cb < 256 := by have := (s[a]'ha).toNat_lt; omega
  rw [h8] at hbn0
  have hbn := Lib.hid hbn0
  clear hbn0
  have hal := Nat.le_of_lt ha
  obtain ⟨T, hT⟩ : ∃ T, tokAt s a before = T := ⟨_, rfl⟩
  rw [hT]
  have hTH := Lib.hid hT
  clear hT
  cases c1 : cb == 10
  · have k1 : bAt s a ≠ 10 := by rw [hbn.out]; simpa using c1
    cases c2 : cb == 35
    · have k2 : bAt s a ≠ 35 := by rw [hbn.out]; simpa using c2
      cases c3 : isDigitB cb || cb == 46
      · have k3 : (isDigitB (bAt s a) || bAt s a == 46) = false := by rw [hbn.out]; exact c3
        obtain ⟨d1, d2⟩ := Bool.or_eq_false_iff.1 c3
        clear c3
        cases c4 : cb == 34
        · have k4 : bAt s a ≠ 34 := by rw [hbn.out]; simpa using c4
          cases c5 : cb == 47
          · have k5 : (bAt s a == 47 && !endsB before) = false := by rw [hbn.out, c5]; rfl
            cases c6 : isLetterB cb
            · have k6 : isLetterB (bAt s a) = false := by rw [hbn.out]; exact c6
              have hsg := tokAt_sign (before := before) k1 k2 k3 k4 k5 k6
              have hok := opAt_kind s a
              obtain ⟨P, hP⟩ : ∃ P, opAt s a = P := ⟨_, rfl⟩
              rw [hP] at hok hsg
              have hPH := Lib.hid hP
              have hsgH := Lib.hid hsg
              clear hP hsg k1 k2 k3 k4 k6
              obtain ⟨pk, pn⟩ := P
              have hok : (pn = 0 → pk = 0) ∧ (pn ≠ 0 → 30 ≤ pk ∧ pk ≤ 68 ∧ a + pn ≤ s.size) := hok
              by_cases hz : pn = 0
              · obtain rfl := hz
                obtain rfl := hok.1 rfl
                clear hok
                obtain ⟨e0, e1, _⟩ := tok3 (show T = ⟨0, bs [], 0⟩ by rw [← hTH.out, hsgH.out, if_pos rfl]; rfl)
                rw [e0, e1]
                clear e0 e1
                go_enter Tryd.func108, Tryd.ntmps108
                go_wp2_with (first | (go_at_call 116; refine (s_isDigit _ _).mono ?_; rintro y w' ⟨rfl, rfl⟩) | (go_at_call 30; refine (s_isLetter _ _).mono ?_; rintro y w' ⟨rfl, rfl⟩))
                refine (s_opAt _ _ _ hs ha).mono ?_
                rintro y w1 ⟨rfl, hb1⟩
                rw [hPH.out]
                obtain ⟨T1, B1⟩ := two2_made w w1 _ _ _ _ _ _ 36 hb1
                have B1 := Lib.hid B1
                clear hb1
                obtain ⟨n0, n1, n2, m0, m1, m2, fg, fh, hlt⟩ := T1
                have hlt0 : w.heap.size < w1.heap.size := by omega
                go_wp2_with fail
                refine bodyPost_ret (v := .agg #[.int .i64 0, .string ⟨#[]⟩, .int .i64 a]) (by simp [results, Tryd.results108, go_sem, n0, n1, n2]) rfl ⟨rfl, ?_⟩
                repeat (first | exact B1.out | refine Below.alloc ?_ (by simp; try omega) _ | refine Below.setCell ?_ (by simp; try omega) _)
              · obtain ⟨q1, q2, q3⟩ := hok.2 hz
                have hpn : (pn == 0) = false := by simpa using hz
                have hzH := Lib.hid hz
                clear hok hz
                obtain ⟨e0, e1, _⟩ := tok3 (show T = ⟨pk, s.extract a (a + pn), a⟩ by rw [← hTH.out, hsgH.out, if_neg hzH.out]; exact finTok_nat _ _ _ _)
                rw [e0, e1]
                clear e0 e1
                have gj : (a : Int) + (pn : Int) ≤ (s.size : Int) := by omega
                have gj0 : (0 : Int) ≤ (a : Int) + (pn : Int) := by omega
                have gj1 : (a : Int) ≤ (a : Int) + (pn : Int) := by omega
                have gjt : ((a : Int) + (pn : Int)).toNat = a + pn := by omega
                go_enter Tryd.func108, Tryd.ntmps108
                go_wp2_with (first | (go_at_call 116; refine (s_isDigit _ _).mono ?_; rintro y w' ⟨rfl, rfl⟩) | (go_at_call 30; refine (s_isLetter _ _).mono ?_; rintro y w' ⟨rfl, rfl⟩))
                refine (s_opAt _ _ _ hs ha).mono ?_
                rintro y w1 ⟨rfl, hb1⟩
                rw [hPH.out]
                obtain ⟨T1, B1⟩ := two2_made w w1 _ _ _ _ _ _ 36 hb1
                have B1 := Lib.hid B1
                clear hb1
                obtain ⟨n0, n1, n2, m0, m1, m2, fg, fh, hlt⟩ := T1
                have hlt0 : w.heap.size < w1.heap.size := by omega
                go_wp2_with fail
                refine bodyPost_ret (v := .agg #[.int .i64 pk, .string (s.extract a (a + pn)), .int .i64 a]) (by simp [results, Tryd.results108, go_sem, n0, n1, n2]) rfl ⟨rfl, ?_⟩
                repeat (first | exact B1.out | refine Below.alloc ?_ (by simp; try omega) _ | refine Below.setCell ?_ (by simp; try omega) _)
            · have k6 : isLetterB (bAt s a) = true := by rw [hbn.out]; exact c6
              obtain ⟨e, he, e1, e2⟩ := nameEnd_bounds k6
              have hw := tokAt_word (before := before) k6
              rw [he, Int.toNat_natCast] at hw
              have heH := Lib.hid he
              have hwH := Lib.hid hw
              have hae := Nat.le_of_lt e1
              clear he hw k1 k2 k3 k4 k6
              cases c7 : nameShape (s.extract a e)
              · have c7H := Lib.hid c7
                clear c7
                obtain ⟨e0, e1, _⟩ := tok3 (show T = ⟨0, bs [], 0⟩ by rw [← hTH.out, hwH.out, c7H.out]; rfl)
                rw [e0, e1]
                clear e0 e1
                go_enter Tryd.func108, Tryd.ntmps108
                go_wp2_with (first | (go_at_call 116; refine (s_isDigit _ _).mono ?_; rintro y w' ⟨rfl, rfl⟩) | (go_at_call 30; refine (s_isLetter _ _).mono ?_; rintro y w' ⟨rfl, rfl⟩) | (go_at_call 29; refine (s_nameEnd _ _ _ hs).mono ?_; rintro y w' ⟨rfl, rfl⟩; rw [heH.out]))
                refine (s_word _ _ _ _ hs hae e2).mono ?_
                rintro y w1 ⟨rfl, hb1⟩
                obtain ⟨T1, B1⟩ := two2_made w w1 _ _ _ _ _ _ 36 hb1
                have B1 := Lib.hid B1
                clear hb1
                obtain ⟨n0, n1, n2, m0, m1, m2, fg, fh, hlt⟩ := T1
                have hlt0 : w.heap.size < w1.heap.size := by omega
                go_wp2_with (go_at_call 71; refine (s_nameShape _ _ (by rw [size_ext _ _ _ e2]; omega)).mono ?_; rintro y w' ⟨rfl, rfl⟩; rw [c7H.out])
                refine bodyPost_ret (v := .agg #[.int .i64 0, .string ⟨#[]⟩, .int .i64 a]) (by simp [results, Tryd.results108, go_sem, n0, n1, n2, hlt0]) rfl ⟨rfl, ?_⟩
                repeat (first | exact B1.out | refine Below.alloc ?_ (by simp; try omega) _ | refine Below.setCell ?_ (by simp; try omega) _)
              · have c7H := Lib.hid c7
                clear c7
                obtain ⟨e0, e1, _⟩ := tok3 (show T = ⟨wordKind s (s.extract a e) e, s.extract a e, a⟩ by rw [← hTH.out, hwH.out, c7H.out]; rfl)
                rw [e0, e1]
                clear e0 e1
                go_enter Tryd.func108, Tryd.ntmps108
                go_wp2_with (first | (go_at_call 116; refine (s_isDigit _ _).mono ?_; rintro y w' ⟨rfl, rfl⟩) | (go_at_call 30; refine (s_isLetter _ _).mono ?_; rintro y w' ⟨rfl, rfl⟩) | (go_at_call 29; refine (s_nameEnd _ _ _ hs).mono ?_; rintro y w' ⟨rfl, rfl⟩; rw [heH.out]))
                refine (s_word _ _ _ _ hs hae e2).mono ?_
                rintro y w1 ⟨rfl, hb1⟩
                obtain ⟨T1, B1⟩ := two2_made w w1 _ _ _ _ _ _ 36 hb1
                have B1 := Lib.hid B1
                clear hb1
                obtain ⟨n0, n1, n2, m0, m1, m2, fg, fh, hlt⟩ := T1
                have hlt0 : w.heap.size < w1.heap.size := by omega
                go_wp2_with (go_at_call 71; refine (s_nameShape _ _ (by rw [size_ext _ _ _ e2]; omega)).mono ?_; rintro y w' ⟨rfl, rfl⟩; rw [c7H.out])
                refine bodyPost_ret (v := .agg #[.int .i64 (wordKind s (s.extract a e) e), .string (s.extract a e), .int .i64 a]) (by simp [results, Tryd.results108, go_sem, n0, n1, n2, hlt0]) rfl ⟨rfl, ?_⟩
                repeat (first | exact B1.out | refine Below.alloc ?_ (by simp; try omega) _ | refine Below.setCell ?_ (by simp; try omega) _)
          · cases ere
            · have k5 : (bAt s a == 47 && !endsB before) = false := by rw [← hE.out]; simp
              cases c6 : isLetterB cb
              · have k6 : isLetterB (bAt s a) = false := by rw [hbn.out]; exact c6
                have hsg := tokAt_sign (before := before) k1 k2 k3 k4 k5 k6
                have hok := opAt_kind s a
                obtain ⟨P, hP⟩ : ∃ P, opAt s a = P := ⟨_, rfl⟩
                rw [hP] at hok hsg
                have hPH := Lib.hid hP
                have hsgH := Lib.hid hsg
                clear hP hsg k1 k2 k3 k4 k6
                obtain ⟨pk, pn⟩ := P
                have hok : (pn = 0 → pk = 0) ∧ (pn ≠ 0 → 30 ≤ pk ∧ pk ≤ 68 ∧ a + pn ≤ s.size) := hok
                by_cases hz : pn = 0
                · obtain rfl := hz
                  obtain rfl := hok.1 rfl
                  clear hok
                  obtain ⟨e0, e1, _⟩ := tok3 (show T = ⟨0, bs [], 0⟩ by rw [← hTH.out, hsgH.out, if_pos rfl]; rfl)
                  rw [e0, e1]
                  clear e0 e1
                  go_enter Tryd.func108, Tryd.ntmps108
                  go_wp2_with (first | (go_at_call 116; refine (s_isDigit _ _).mono ?_; rintro y w' ⟨rfl, rfl⟩) | (go_at_call 30; refine (s_isLetter _ _).mono ?_; rintro y w' ⟨rfl, rfl⟩))
                  refine (s_opAt _ _ _ hs ha).mono ?_
                  rintro y w1 ⟨rfl, hb1⟩
                  rw [hPH.out]
                  obtain ⟨T1, B1⟩ := two2_made w w1 _ _ _ _ _ _ 36 hb1
                  have B1 := Lib.hid B1
                  clear hb1
                  obtain ⟨n0, n1, n2, m0, m1, m2, fg, fh, hlt⟩ := T1
                  have hlt0 : w.heap.size < w1.heap.size := by omega
                  go_wp2_with fail
                  refine bodyPost_ret (v := .agg #[.int .i64 0, .string ⟨#[]⟩, .int .i64 a]) (by simp [results, Tryd.results108, go_sem, n0, n1, n2]) rfl ⟨rfl, ?_⟩
                  repeat (first | exact B1.out | refine Below.alloc ?_ (by simp; try omega) _ | refine Below.setCell ?_ (by simp; try omega) _)
                · obtain ⟨q1, q2, q3⟩ := hok.2 hz
                  have hpn : (pn == 0) = false := by simpa using hz
                  have hzH := Lib.hid hz
                  clear hok hz
                  obtain ⟨e0, e1, _⟩ := tok3 (show T = ⟨pk, s.extract a (a + pn), a⟩ by rw [← hTH.out, hsgH.out, if_neg hzH.out]; exact finTok_nat _ _ _ _)
                  rw [e0, e1]
                  clear e0 e1
                  have gj : (a : Int) + (pn : Int) ≤ (s.size : Int) := by omega
                  have gj0 : (0 : Int) ≤ (a : Int) + (pn : Int) := by omega
                  have gj1 : (a : Int) ≤ (a : Int) + (pn : Int) := by omega
                  have gjt : ((a : Int) + (pn : Int)).toNat = a + pn := by omega
                  go_enter Tryd.func108, Tryd.ntmps108
                  go_wp2_with (first | (go_at_call 116; refine (s_isDigit _ _).mono ?_; rintro y w' ⟨rfl, rfl⟩) | (go_at_call 30; refine (s_isLetter _ _).mono ?_; rintro y w' ⟨rfl, rfl⟩))
                  refine (s_opAt _ _ _ hs ha).mono ?_
                  rintro y w1 ⟨rfl, hb1⟩
                  rw [hPH.out]
                  obtain ⟨T1, B1⟩ := two2_made w w1 _ _ _ _ _ _ 36 hb1
                  have B1 := Lib.hid B1
                  clear hb1
                  obtain ⟨n0, n1, n2, m0, m1, m2, fg, fh, hlt⟩ := T1
                  have hlt0 : w.heap.size < w1.heap.size := by omega
                  go_wp2_with fail
                  refine bodyPost_ret (v := .agg #[.int .i64 pk, .string (s.extract a (a + pn)), .int .i64 a]) (by simp [results, Tryd.results108, go_sem, n0, n1, n2]) rfl ⟨rfl, ?_⟩
                  repeat (first | exact B1.out | refine Below.alloc ?_ (by simp; try omega) _ | refine Below.setCell ?_ (by simp; try omega) _)
              · have k6 : isLetterB (bAt s a) = true := by rw [hbn.out]; exact c6
                obtain ⟨e, he, e1, e2⟩ := nameEnd_bounds k6
                have hw := tokAt_word (before := before) k6
                rw [he, Int.toNat_natCast] at hw
                have heH := Lib.hid he
                have hwH := Lib.hid hw
                have hae := Nat.le_of_lt e1
                clear he hw k1 k2 k3 k4 k6
                cases c7 : nameShape (s.extract a e)
                · have c7H := Lib.hid c7
                  clear c7
                  obtain ⟨e0, e1, _⟩ := tok3 (show T = ⟨0, bs [], 0⟩ by rw [← hTH.out, hwH.out, c7H.out]; rfl)
                  rw [e0, e1]
                  clear e0 e1
                  go_enter Tryd.func108, Tryd.ntmps108
                  go_wp2_with (first | (go_at_call 116; refine (s_isDigit _ _).mono ?_; rintro y w' ⟨rfl, rfl⟩) | (go_at_call 30; refine (s_isLetter _ _).mono ?_; rintro y w' ⟨rfl, rfl⟩) | (go_at_call 29; refine (s_nameEnd _ _ _ hs).mono ?_; rintro y w' ⟨rfl, rfl⟩; rw [heH.out]))
                  refine (s_word _ _ _ _ hs hae e2).mono ?_
                  rintro y w1 ⟨rfl, hb1⟩
                  obtain ⟨T1, B1⟩ := two2_made w w1 _ _ _ _ _ _ 36 hb1
                  have B1 := Lib.hid B1
                  clear hb1
                  obtain ⟨n0, n1, n2, m0, m1, m2, fg, fh, hlt⟩ := T1
                  have hlt0 : w.heap.size < w1.heap.size := by omega
                  go_wp2_with (go_at_call 71; refine (s_nameShape _ _ (by rw [size_ext _ _ _ e2]; omega)).mono ?_; rintro y w' ⟨rfl, rfl⟩; rw [c7H.out])
                  refine bodyPost_ret (v := .agg #[.int .i64 0, .string ⟨#[]⟩, .int .i64 a]) (by simp [results, Tryd.results108, go_sem, n0, n1, n2, hlt0]) rfl ⟨rfl, ?_⟩
                  repeat (first | exact B1.out | refine Below.alloc ?_ (by simp; try omega) _ | refine Below.setCell ?_ (by simp; try omega) _)
                · have c7H := Lib.hid c7
                  clear c7
                  obtain ⟨e0, e1, _⟩ := tok3 (show T = ⟨wordKind s (s.extract a e) e, s.extract a e, a⟩ by rw [← hTH.out, hwH.out, c7H.out]; rfl)
                  rw [e0, e1]
                  clear e0 e1
                  go_enter Tryd.func108, Tryd.ntmps108
                  go_wp2_with (first | (go_at_call 116; refine (s_isDigit _ _).mono ?_; rintro y w' ⟨rfl, rfl⟩) | (go_at_call 30; refine (s_isLetter _ _).mono ?_; rintro y w' ⟨rfl, rfl⟩) | (go_at_call 29; refine (s_nameEnd _ _ _ hs).mono ?_; rintro y w' ⟨rfl, rfl⟩; rw [heH.out]))
                  refine (s_word _ _ _ _ hs hae e2).mono ?_
                  rintro y w1 ⟨rfl, hb1⟩
                  obtain ⟨T1, B1⟩ := two2_made w w1 _ _ _ _ _ _ 36 hb1
                  have B1 := Lib.hid B1
                  clear hb1
                  obtain ⟨n0, n1, n2, m0, m1, m2, fg, fh, hlt⟩ := T1
                  have hlt0 : w.heap.size < w1.heap.size := by omega
                  go_wp2_with (go_at_call 71; refine (s_nameShape _ _ (by rw [size_ext _ _ _ e2]; omega)).mono ?_; rintro y w' ⟨rfl, rfl⟩; rw [c7H.out])
                  refine bodyPost_ret (v := .agg #[.int .i64 (wordKind s (s.extract a e) e), .string (s.extract a e), .int .i64 a]) (by simp [results, Tryd.results108, go_sem, n0, n1, n2, hlt0]) rfl ⟨rfl, ?_⟩
                  repeat (first | exact B1.out | refine Below.alloc ?_ (by simp; try omega) _ | refine Below.setCell ?_ (by simp; try omega) _)
            · have k5 : bAt s a = 47 := by rw [hbn.out]; exact eq_of_beq c5
              have hE2 : endsB before = false := by have := hE.out; simpa using this.symm
              have hE2H := Lib.hid hE2
              clear hE2
              obtain ⟨E, hE0⟩ : ∃ E, ereEnd s a = E := ⟨_, rfl⟩
              by_cases hneg : E < 0
              · have hEH := Lib.hid hE0
                clear hE0
                obtain ⟨e0, e1, _⟩ := tok3 (show T = ⟨0, bs [], 0⟩ by rw [← hTH.out, tokAt_ere k5 hE2H.out, hEH.out, finTok_no _ _ _ hneg]; rfl)
                rw [e0, e1]
                clear e0 e1
                go_enter Tryd.func108, Tryd.ntmps108
                go_wp2_with (first | (go_at_call 116; refine (s_isDigit _ _).mono ?_; rintro y w' ⟨rfl, rfl⟩) | (go_at_call 110; refine (s_ereEnd _ _ _ hs).mono ?_; rintro y w' ⟨rfl, rfl⟩; rw [hEH.out]))
                refine bodyPost_ret (v := .agg #[.int .i64 0, .string ⟨#[]⟩, .int .i64 a]) (by simp [results, Tryd.results108, go_sem]) rfl ⟨rfl, ?_⟩
                repeat (first | exact Below.refl _ _ | refine Below.alloc ?_ (by simp; try omega) _ | refine Below.setCell ?_ (by simp; try omega) _)
              · obtain ⟨n, rfl⟩ := Int.eq_ofNat_of_zero_le (show 0 ≤ E by omega)
                have hn : a ≤ n ∧ n ≤ s.size := by
                  have := ereEnd_bounds (s := s) (k := a) (by omega)
                  omega
                have hEH := Lib.hid hE0
                clear hE0 hneg
                obtain ⟨e0, e1, _⟩ := tok3 (show T = ⟨5, s.extract a n, a⟩ by rw [← hTH.out, tokAt_ere k5 hE2H.out, hEH.out, finTok_nat])
                rw [e0, e1]
                clear e0 e1
                go_enter Tryd.func108, Tryd.ntmps108
                go_wp2_with (first | (go_at_call 116; refine (s_isDigit _ _).mono ?_; rintro y w' ⟨rfl, rfl⟩) | (go_at_call 110; refine (s_ereEnd _ _ _ hs).mono ?_; rintro y w' ⟨rfl, rfl⟩; rw [hEH.out]))
                refine bodyPost_ret (v := .agg #[.int .i64 5, .string (s.extract a n), .int .i64 a]) (by simp [results, Tryd.results108, go_sem]) rfl ⟨rfl, ?_⟩
                repeat (first | exact Below.refl _ _ | refine Below.alloc ?_ (by simp; try omega) _ | refine Below.setCell ?_ (by simp; try omega) _)
        · have k4 : bAt s a = 34 := by rw [hbn.out]; exact eq_of_beq c4
          obtain ⟨E, hE0⟩ : ∃ E, strEnd s a = E := ⟨_, rfl⟩
          by_cases hneg : E < 0
          · have hEH := Lib.hid hE0
            clear hE0
            obtain ⟨e0, e1, _⟩ := tok3 (show T = ⟨0, bs [], 0⟩ by rw [← hTH.out, tokAt_str k4, hEH.out, finTok_no _ _ _ hneg]; rfl)
            rw [e0, e1]
            clear e0 e1
            go_enter Tryd.func108, Tryd.ntmps108
            go_wp2_with (first | (go_at_call 116; refine (s_isDigit _ _).mono ?_; rintro y w' ⟨rfl, rfl⟩) | (go_at_call 26; refine (s_strEnd _ _ _ hs).mono ?_; rintro y w' ⟨rfl, rfl⟩; rw [hEH.out]))
            refine bodyPost_ret (v := .agg #[.int .i64 0, .string ⟨#[]⟩, .int .i64 a]) (by simp [results, Tryd.results108, go_sem]) rfl ⟨rfl, ?_⟩
            repeat (first | exact Below.refl _ _ | refine Below.alloc ?_ (by simp; try omega) _ | refine Below.setCell ?_ (by simp; try omega) _)
          · obtain ⟨n, rfl⟩ := Int.eq_ofNat_of_zero_le (show 0 ≤ E by omega)
            have hn : a ≤ n ∧ n ≤ s.size := by
              have := strEnd_bounds (s := s) (k := a) (by omega)
              omega
            have hEH := Lib.hid hE0
            clear hE0 hneg
            obtain ⟨e0, e1, _⟩ := tok3 (show T = ⟨4, s.extract a n, a⟩ by rw [← hTH.out, tokAt_str k4, hEH.out, finTok_nat])
            rw [e0, e1]
            clear e0 e1
            go_enter Tryd.func108, Tryd.ntmps108
            go_wp2_with (first | (go_at_call 116; refine (s_isDigit _ _).mono ?_; rintro y w' ⟨rfl, rfl⟩) | (go_at_call 26; refine (s_strEnd _ _ _ hs).mono ?_; rintro y w' ⟨rfl, rfl⟩; rw [hEH.out]))
            refine bodyPost_ret (v := .agg #[.int .i64 4, .string (s.extract a n), .int .i64 a]) (by simp [results, Tryd.results108, go_sem]) rfl ⟨rfl, ?_⟩
            repeat (first | exact Below.refl _ _ | refine Below.alloc ?_ (by simp; try omega) _ | refine Below.setCell ?_ (by simp; try omega) _)
      · have k3 : (isDigitB (bAt s a) || bAt s a == 46) = true := by rw [hbn.out]; exact c3
        cases d1 : isDigitB cb
        · have d2 : (cb == 46) = true := by rw [d1] at c3; exact c3
          clear c3
          obtain ⟨E, hE0⟩ : ∃ E, numEnd s a = E := ⟨_, rfl⟩
          by_cases hneg : E < 0
          · have hEH := Lib.hid hE0
            clear hE0
            obtain ⟨e0, e1, _⟩ := tok3 (show T = ⟨0, bs [], 0⟩ by rw [← hTH.out, tokAt_num k1 k2 k3, hEH.out, finTok_no _ _ _ hneg]; rfl)
            rw [e0, e1]
            clear e0 e1
            go_enter Tryd.func108, Tryd.ntmps108
            go_wp2_with (first | (go_at_call 116; refine (s_isDigit _ _).mono ?_; rintro y w' ⟨rfl, rfl⟩) | (go_at_call 22; refine (s_numEnd _ _ _ hs).mono ?_; rintro y w' ⟨rfl, rfl⟩; rw [hEH.out]))
            refine bodyPost_ret (v := .agg #[.int .i64 0, .string ⟨#[]⟩, .int .i64 a]) (by simp [results, Tryd.results108, go_sem]) rfl ⟨rfl, ?_⟩
            repeat (first | exact Below.refl _ _ | refine Below.alloc ?_ (by simp; try omega) _ | refine Below.setCell ?_ (by simp; try omega) _)
          · obtain ⟨n, rfl⟩ := Int.eq_ofNat_of_zero_le (show 0 ≤ E by omega)
            have hn : a ≤ n ∧ n ≤ s.size := by
              have := numEnd_bounds (s := s) (k := a) (by omega)
              omega
            have hEH := Lib.hid hE0
            clear hE0 hneg
            obtain ⟨e0, e1, _⟩ := tok3 (show T = ⟨3, s.extract a n, a⟩ by rw [← hTH.out, tokAt_num k1 k2 k3, hEH.out, finTok_nat])
            rw [e0, e1]
            clear e0 e1
            go_enter Tryd.func108, Tryd.ntmps108
            go_wp2_with (first | (go_at_call 116; refine (s_isDigit _ _).mono ?_; rintro y w' ⟨rfl, rfl⟩) | (go_at_call 22; refine (s_numEnd _ _ _ hs).mono ?_; rintro y w' ⟨rfl, rfl⟩; rw [hEH.out]))
            refine bodyPost_ret (v := .agg #[.int .i64 3, .string (s.extract a n), .int .i64 a]) (by simp [results, Tryd.results108, go_sem]) rfl ⟨rfl, ?_⟩
            repeat (first | exact Below.refl _ _ | refine Below.alloc ?_ (by simp; try omega) _ | refine Below.setCell ?_ (by simp; try omega) _)
        · clear c3
          obtain ⟨E, hE0⟩ : ∃ E, numEnd s a = E := ⟨_, rfl⟩
          by_cases hneg : E < 0
          · have hEH := Lib.hid hE0
            clear hE0
            obtain ⟨e0, e1, _⟩ := tok3 (show T = ⟨0, bs [], 0⟩ by rw [← hTH.out, tokAt_num k1 k2 k3, hEH.out, finTok_no _ _ _ hneg]; rfl)
            rw [e0, e1]
            clear e0 e1
            go_enter Tryd.func108, Tryd.ntmps108
            go_wp2_with (first | (go_at_call 116; refine (s_isDigit _ _).mono ?_; rintro y w' ⟨rfl, rfl⟩) | (go_at_call 22; refine (s_numEnd _ _ _ hs).mono ?_; rintro y w' ⟨rfl, rfl⟩; rw [hEH.out]))
            refine bodyPost_ret (v := .agg #[.int .i64 0, .string ⟨#[]⟩, .int .i64 a]) (by simp [results, Tryd.results108, go_sem]) rfl ⟨rfl, ?_⟩
            repeat (first | exact Below.refl _ _ | refine Below.alloc ?_ (by simp; try omega) _ | refine Below.setCell ?_ (by simp; try omega) _)
          · obtain ⟨n, rfl⟩ := Int.eq_ofNat_of_zero_le (show 0 ≤ E by omega)
            have hn : a ≤ n ∧ n ≤ s.size := by
              have := numEnd_bounds (s := s) (k := a) (by omega)
              omega
            have hEH := Lib.hid hE0
            clear hE0 hneg
            obtain ⟨e0, e1, _⟩ := tok3 (show T = ⟨3, s.extract a n, a⟩ by rw [← hTH.out, tokAt_num k1 k2 k3, hEH.out, finTok_nat])
            rw [e0, e1]
            clear e0 e1
            go_enter Tryd.func108, Tryd.ntmps108
            go_wp2_with (first | (go_at_call 116; refine (s_isDigit _ _).mono ?_; rintro y w' ⟨rfl, rfl⟩) | (go_at_call 22; refine (s_numEnd _ _ _ hs).mono ?_; rintro y w' ⟨rfl, rfl⟩; rw [hEH.out]))
            refine bodyPost_ret (v := .agg #[.int .i64 3, .string (s.extract a n), .int .i64 a]) (by simp [results, Tryd.results108, go_sem]) rfl ⟨rfl, ?_⟩
            repeat (first | exact Below.refl _ _ | refine Below.alloc ?_ (by simp; try omega) _ | refine Below.setCell ?_ (by simp; try omega) _)
    · have k2 : bAt s a = 35 := by rw [hbn.out]; exact eq_of_beq c2
      have hle := lineEnd_le (s := s) (a := a) (Nat.le_of_lt ha)
      obtain ⟨n, hn⟩ := Int.eq_ofNat_of_zero_le (show 0 ≤ lineEnd s a by omega)
      rw [hn] at hle
      have hnH := Lib.hid hn
      clear hn
      obtain ⟨e0, e1, _⟩ := tok3 (show T = ⟨2, s.extract a n, a⟩ by rw [← hTH.out, tokAt_note k2, hnH.out, finTok_nat])
      rw [e0, e1]
      clear e0 e1
      go_enter Tryd.func108, Tryd.ntmps108
      go_wp2_with fail
      go_loop [9] (fun z => ∃ (j : Nat), a ≤ j ∧ j ≤ n ∧ Hid (lineEnd s j = n) ∧ z = .int .i64 j) (fun z => (s.size - (intOf z).toNat))
      case atStart => exact ⟨a, by omega, by omega, hnH.out, rfl⟩
      case round =>
        obtain ⟨j, hj1, hj2, hd, rfl⟩ := hrel
        by_cases hlt : j < s.size
        · cases hx : ((s[j]'hlt).toNat : Int) == 10
          · have hst : Hid (lineEnd s ((j + 1 : Nat) : Int) = n) := by
              show _ = _
              rw [← hd.out]
              unfold lineEnd
              rw [runEnd.eq_1 _ s (j : Int), dif_pos ⟨by omega, by rw [bAt_nat hlt, bne, hx]; rfl⟩]
              rfl
            have hj3 : j + 1 ≤ n := by
              have h1 := lineEnd_le (s := s) (a := j + 1) (by omega)
              have h2 := hst.out
              omega
            go_wp2_with fail
            go_round
            case rel => exact ⟨j + 1, by omega, hj3, hst, by go_num⟩
            case measure => simp [intOf]; omega
          · obtain rfl : j = n := by
              have h1 := hd.out
              unfold lineEnd at h1
              rw [runEnd_stop (by rw [bAt_nat hlt, bne, hx]; rfl)] at h1
              omega
            go_wp2_with fail
            refine bodyPost_ret (v := .agg #[.int .i64 2, .string (s.extract a j), .int .i64 a]) (by simp [results, Tryd.results108, go_sem]) rfl ⟨rfl, ?_⟩
            repeat (first | exact Below.refl _ _ | refine Below.alloc ?_ (by simp; try omega) _ | refine Below.setCell ?_ (by simp; try omega) _)
        · obtain rfl : j = n := by omega
          go_wp2_with fail
          refine bodyPost_ret (v := .agg #[.int .i64 2, .string (s.extract a j), .int .i64 a]) (by simp [results, Tryd.results108, go_sem]) rfl ⟨rfl, ?_⟩
          repeat (first | exact Below.refl _ _ | refine Below.alloc ?_ (by simp; try omega) _ | refine Below.setCell ?_ (by simp; try omega) _)
  · have k1 : bAt s a = 10 := by rw [hbn.out]; exact eq_of_beq c1
    have hx10 : s.extract a (a + 1) = bs [10] := by
      apply ba_ext
      rw [extract_bytes s a _ (by omega), bs_data]
      obtain ⟨r, hr⟩ := drop_head s a ha
      rw [hr, show a + 1 - a = 1 by omega]
      have h10 : s[a] = 10 := UInt8.toNat.inj (by show (s[a]).toNat = 10; have := eq_of_beq c1; omega)
      rw [h10]; rfl
    have hx10H := Lib.hid hx10
    clear hx10
    obtain ⟨e0, e1, _⟩ := tok3 (show T = ⟨1, bs [10], a⟩ by rw [← hTH.out, tokAt_line k1, hx10H.out])
    rw [e0, e1]
    clear e0 e1
    go_enter Tryd.func108, Tryd.ntmps108
    go_wp2_with fail
    refine bodyPost_ret (v := .agg #[.int .i64 1, .string ⟨#[10]⟩, .int .i64 a]) (by simp [results, Tryd.results108, go_sem]) rfl ⟨rfl, ?_⟩
    repeat (first | exact Below.refl _ _ | refine Below.alloc ?_ (by simp; try omega) _ | refine Below.setCell ?_ (by simp; try omega) _)
end Go.Proofs.YtdajhcammnlonaaDoor
