/- The token at a place of a text, in the program (walk). -/
import Derived.Test.YtdajhcammnlonaaDoorLexWord
import Derived.Test.YtdajhcammnlonaaDoorTokAtPure
namespace Go.Proofs.YtdajhcammnlonaaDoor
open Go.RowKit
set_option linter.unusedVariables false
theorem tok3 {T : PTok} {k p : Int} {x : ByteArray} (h : T = ⟨k, x, p⟩) : T.kind = k ∧ T.text = x ∧ T.at_ = p := by subst h; exact ⟨rfl, rfl, rfl⟩
set_option maxRecDepth 100000 in
theorem ixl (s : ByteArray) (w : World) : Calls Tryd.prog 95 #[.string s, .int .u8 10] w fun e w' => e = .returned (.int .i64 (firstIdx s 10)) ∧ w = w' := by
  have hx := tix_run
  go_enter Tryd.func95, Tryd.ntmps95
  go_wp2
  go_ret
  exact ⟨rfl, rfl⟩
set_option maxRecDepth 100000 in
set_option maxHeartbeats 2000000 in
theorem i_tokenAt (s : ByteArray) (a : Nat) (before : Int) (w : World) (hs : s.size ≤ 16777216) (ha : a < s.size) (t0 : TabAt w 0 kwL) (t1 : TabAt w 1 signL) (t2 : TabAt w 2 biL) :
    Calls Tryd.prog 127 #[.string s, .int .i64 (a : Int), .int .i64 before] w fun x w' => x = .returned (.agg #[.int .i64 (tokAt s a before).kind, .string (tokAt s a before).text, .int .i64 (tokAt s a before).at_]) ∧ Below w.heap.size w w' := by
  have hb : Below w.heap.size w (w.alloc (.cells #[.int .i64 0, .string ⟨#[]⟩, .int .i64 0] 36)) := (Below.refl _ _).alloc (Nat.le_refl _) _
  have x0 := Lib.hid (t0.later hb)
  have x1 := Lib.hid (t1.later hb)
  have x2 := Lib.hid (t2.later hb)
  clear t0 t1 t2 hb
  have hbn0 := bAt_nat ha
  obtain ⟨cb, h8⟩ : ∃ cb : Int, ((s[a]'ha).toNat : Int) = cb := ⟨_, rfl⟩
  have hcb : 0 ≤ cb ∧ cb < 256 := by have := (s[a]'ha).toNat_lt; omega
  rw [h8] at hbn0
  have hbn := Lib.hid hbn0
  clear hbn0
  have hal := Nat.le_of_lt ha
  obtain ⟨T, hT⟩ : ∃ T, tokAt s a before = T := ⟨_, rfl⟩
  rw [hT]
  have hTH := Lib.hid hT
  clear hT
  cases c1 : cb == 10
  · have k1 : bAt s a ≠ 10 := by rw [hbn.out]; simpa using c1
    cases c2 : cb == 35
    · have k2 : bAt s a ≠ 35 := by rw [hbn.out]; simpa using c2
      cases c3 : isDigitB cb || cb == 46
      · have k3 : (isDigitB (bAt s a) || bAt s a == 46) = false := by rw [hbn.out]; exact c3
        obtain ⟨d1, d2⟩ := Bool.or_eq_false_iff.1 c3
        clear c3
        cases c4 : cb == 34
        · have k4 : bAt s a ≠ 34 := by rw [hbn.out]; simpa using c4
          cases c5 : cb == 47
          · have k5 : (bAt s a == 47 && !endsB before) = false := by rw [hbn.out, c5]; rfl
            cases c6 : isLetterB cb
            · have k6 : isLetterB (bAt s a) = false := by rw [hbn.out]; exact c6
              have hsg := tokAt_sign (before := before) k1 k2 k3 k4 k5 k6
              have hok := opAt_kind s a
              obtain ⟨P, hP⟩ : ∃ P, opAt s a = P := ⟨_, rfl⟩
              rw [hP] at hok hsg
              have hPH := Lib.hid hP
              have hsgH := Lib.hid hsg
              clear hP hsg k1 k2 k3 k4 k6
              obtain ⟨pk, pn⟩ := P
              have hok : (pn = 0 → pk = 0) ∧ (pn ≠ 0 → 30 ≤ pk ∧ pk ≤ 68 ∧ a + pn ≤ s.size) := hok
              by_cases hz : pn = 0
              · obtain rfl := hz
                obtain rfl := hok.1 rfl
                clear hok
                obtain ⟨e0, e1, e2⟩ := tok3 (show T = ⟨0, bs [], 0⟩ by rw [← hTH.out, hsgH.out, if_pos rfl]; rfl)
                rw [e0, e1, e2]
                clear e0 e1 e2
                go_enter Tryd.func127, Tryd.ntmps127
                go_wp2_with (first | (go_at_call 113; refine (i_isDigit _ _).mono ?_; rintro y w' ⟨rfl, rfl⟩) | (go_at_call 69; refine (i_isLetter _ _).mono ?_; rintro y w' ⟨rfl, rfl⟩) | (go_at_call 15; refine (i_opAt _ _ _ hs ha x1.out).mono ?_; rintro y w' ⟨rfl, rfl⟩; rw [hPH.out]))
                refine bodyPost_ret (v := .agg #[.int .i64 0, .string ⟨#[]⟩, .int .i64 0]) (by simp [results, Tryd.results127, go_sem]) rfl ⟨rfl, ?_⟩
                repeat (first | exact Below.refl _ _ | refine Below.alloc ?_ (by simp; try omega) _ | refine Below.setCell ?_ (by simp; try omega) _)
              · obtain ⟨q1, q2, q3⟩ := hok.2 hz
                have hpk : (pk == 0) = false := by simp; omega
                have hzH := Lib.hid hz
                clear hok hz
                obtain ⟨e0, e1, e2⟩ := tok3 (show T = ⟨pk, s.extract a (a + pn), a⟩ by rw [← hTH.out, hsgH.out, if_neg hzH.out]; exact finTok_nat _ _ _ _)
                rw [e0, e1, e2]
                clear e0 e1 e2
                have gj : (a : Int) + (pn : Int) ≤ (s.size : Int) := by omega
                have gj0 : (0 : Int) ≤ (a : Int) + (pn : Int) := by omega
                have gj1 : (a : Int) ≤ (a : Int) + (pn : Int) := by omega
                have gjt : ((a : Int) + (pn : Int)).toNat = a + pn := by omega
                go_enter Tryd.func127, Tryd.ntmps127
                go_wp2_with (first | (go_at_call 113; refine (i_isDigit _ _).mono ?_; rintro y w' ⟨rfl, rfl⟩) | (go_at_call 69; refine (i_isLetter _ _).mono ?_; rintro y w' ⟨rfl, rfl⟩) | (go_at_call 15; refine (i_opAt _ _ _ hs ha x1.out).mono ?_; rintro y w' ⟨rfl, rfl⟩; rw [hPH.out]))
                refine bodyPost_ret (v := .agg #[.int .i64 pk, .string (s.extract a (a + pn)), .int .i64 a]) (by simp [results, Tryd.results127, go_sem]) rfl ⟨rfl, ?_⟩
                repeat (first | exact Below.refl _ _ | refine Below.alloc ?_ (by simp; try omega) _ | refine Below.setCell ?_ (by simp; try omega) _)
            · have k6 : isLetterB (bAt s a) = true := by rw [hbn.out]; exact c6
              obtain ⟨e, he, e1, e2⟩ := nameEnd_bounds k6
              have hw := tokAt_word (before := before) k6
              rw [he, Int.toNat_natCast] at hw
              have heH := Lib.hid he
              have hwH := Lib.hid hw
              clear he hw k1 k2 k3 k4 k6
              cases c7 : nameShape (s.extract a e)
              · have c7H := Lib.hid c7
                clear c7
                have hae := Nat.le_of_lt e1
                obtain ⟨e0, e1, e2⟩ := tok3 (show T = ⟨0, bs [], 0⟩ by rw [← hTH.out, hwH.out, c7H.out]; rfl)
                rw [e0, e1, e2]
                clear e0 e1 e2
                go_enter Tryd.func127, Tryd.ntmps127
                go_wp2_with (first | (go_at_call 113; refine (i_isDigit _ _).mono ?_; rintro y w' ⟨rfl, rfl⟩) | (go_at_call 69; refine (i_isLetter _ _).mono ?_; rintro y w' ⟨rfl, rfl⟩) | (go_at_call 28; refine (i_nameEnd _ _ _ hs).mono ?_; rintro y w' ⟨rfl, rfl⟩; rw [heH.out]) | (go_at_call 17; refine (i_nameShape _ _ (by rw [size_ext _ _ _ e2]; omega)).mono ?_; rintro y w' ⟨rfl, rfl⟩; rw [c7H.out]))
                refine bodyPost_ret (v := .agg #[.int .i64 0, .string ⟨#[]⟩, .int .i64 0]) (by simp [results, Tryd.results127, go_sem]) rfl ⟨rfl, ?_⟩
                repeat (first | exact Below.refl _ _ | refine Below.alloc ?_ (by simp; try omega) _ | refine Below.setCell ?_ (by simp; try omega) _)
              · have c7H := Lib.hid c7
                clear c7
                have hae := Nat.le_of_lt e1
                obtain ⟨e0, e1, e2⟩ := tok3 (show T = ⟨wordKind s (s.extract a e) e, s.extract a e, a⟩ by rw [← hTH.out, hwH.out, c7H.out]; rfl)
                rw [e0, e1, e2]
                clear e0 e1 e2
                go_enter Tryd.func127, Tryd.ntmps127
                go_wp2_with (first | (go_at_call 113; refine (i_isDigit _ _).mono ?_; rintro y w' ⟨rfl, rfl⟩) | (go_at_call 69; refine (i_isLetter _ _).mono ?_; rintro y w' ⟨rfl, rfl⟩) | (go_at_call 28; refine (i_nameEnd _ _ _ hs).mono ?_; rintro y w' ⟨rfl, rfl⟩; rw [heH.out]) | (go_at_call 17; refine (i_nameShape _ _ (by rw [size_ext _ _ _ e2]; omega)).mono ?_; rintro y w' ⟨rfl, rfl⟩; rw [c7H.out]))
                refine (i_wordToken _ _ _ _ hs hae e2 x0.out x2.out).mono ?_
                rintro y w2 ⟨rfl, hb2⟩
                have hh := (Has.made w 36 #[.int .i64 0, .string ⟨#[]⟩, .int .i64 0]).below hb2 (by simp)
                have n0 := hh.get (i := 0) rfl
                have n1 := hh.get (i := 1) rfl
                have n2 := hh.get (i := 2) rfl
                have fr := hh.free
                have hlt := hh.lt
                go_wp2_with fail
                refine bodyPost_ret (v := .agg #[.int .i64 (wordKind s (s.extract a e) e), .string (s.extract a e), .int .i64 a]) (by simp [results, Tryd.results127, go_sem, n0, n1, n2]) rfl ⟨rfl, ?_⟩
                have hbb : Below w.heap.size w w2 := ((Below.refl w.heap.size w).alloc (Nat.le_refl _) _).trans (hb2.mono (by simp))
                repeat (first | exact hbb | refine Below.setCell ?_ (by simp; try omega) _)
          · cases hE0 : endsB before
            · have hE := Lib.hid hE0
              clear hE0
              have k5 : bAt s a = 47 := by rw [hbn.out]; exact eq_of_beq c5
              obtain ⟨E, hE0⟩ : ∃ E, ereEnd s a = E := ⟨_, rfl⟩
              by_cases hneg : E < 0
              · have hEH := Lib.hid hE0
                clear hE0
                obtain ⟨e0, e1, e2⟩ := tok3 (show T = ⟨0, bs [], 0⟩ by rw [← hTH.out, tokAt_ere k5 hE.out, hEH.out, finTok_no _ _ _ hneg]; rfl)
                rw [e0, e1, e2]
                clear e0 e1 e2
                go_enter Tryd.func127, Tryd.ntmps127
                go_wp2_with (first | (go_at_call 113; refine (i_isDigit _ _).mono ?_; rintro y w' ⟨rfl, rfl⟩) | (go_at_call 105; refine (i_ends _ _).mono ?_; rintro y w' ⟨rfl, rfl⟩; rw [hE.out]) | (go_at_call 83; refine (i_ereEnd _ _ _ hs).mono ?_; rintro y w' ⟨rfl, rfl⟩; rw [hEH.out]))
                refine bodyPost_ret (v := .agg #[.int .i64 0, .string ⟨#[]⟩, .int .i64 0]) (by simp [results, Tryd.results127, go_sem]) rfl ⟨rfl, ?_⟩
                repeat (first | exact Below.refl _ _ | refine Below.alloc ?_ (by simp; try omega) _ | refine Below.setCell ?_ (by simp; try omega) _)
              · obtain ⟨n, rfl⟩ := Int.eq_ofNat_of_zero_le (show 0 ≤ E by omega)
                have hn : a ≤ n ∧ n ≤ s.size := by
                  have := ereEnd_bounds (s := s) (k := a) (by omega)
                  omega
                have hEH := Lib.hid hE0
                clear hE0 hneg
                obtain ⟨e0, e1, e2⟩ := tok3 (show T = ⟨5, s.extract a n, a⟩ by rw [← hTH.out, tokAt_ere k5 hE.out, hEH.out, finTok_nat])
                rw [e0, e1, e2]
                clear e0 e1 e2
                go_enter Tryd.func127, Tryd.ntmps127
                go_wp2_with (first | (go_at_call 113; refine (i_isDigit _ _).mono ?_; rintro y w' ⟨rfl, rfl⟩) | (go_at_call 105; refine (i_ends _ _).mono ?_; rintro y w' ⟨rfl, rfl⟩; rw [hE.out]) | (go_at_call 83; refine (i_ereEnd _ _ _ hs).mono ?_; rintro y w' ⟨rfl, rfl⟩; rw [hEH.out]))
                refine bodyPost_ret (v := .agg #[.int .i64 5, .string (s.extract a n), .int .i64 a]) (by simp [results, Tryd.results127, go_sem]) rfl ⟨rfl, ?_⟩
                repeat (first | exact Below.refl _ _ | refine Below.alloc ?_ (by simp; try omega) _ | refine Below.setCell ?_ (by simp; try omega) _)
            · have hE := Lib.hid hE0
              clear hE0
              have k5 : (bAt s a == 47 && !endsB before) = false := by rw [hE.out]; simp
              cases c6 : isLetterB cb
              · have k6 : isLetterB (bAt s a) = false := by rw [hbn.out]; exact c6
                have hsg := tokAt_sign (before := before) k1 k2 k3 k4 k5 k6
                have hok := opAt_kind s a
                obtain ⟨P, hP⟩ : ∃ P, opAt s a = P := ⟨_, rfl⟩
                rw [hP] at hok hsg
                have hPH := Lib.hid hP
                have hsgH := Lib.hid hsg
                clear hP hsg k1 k2 k3 k4 k6
                obtain ⟨pk, pn⟩ := P
                have hok : (pn = 0 → pk = 0) ∧ (pn ≠ 0 → 30 ≤ pk ∧ pk ≤ 68 ∧ a + pn ≤ s.size) := hok
                by_cases hz : pn = 0
                · obtain rfl := hz
                  obtain rfl := hok.1 rfl
                  clear hok
                  obtain ⟨e0, e1, e2⟩ := tok3 (show T = ⟨0, bs [], 0⟩ by rw [← hTH.out, hsgH.out, if_pos rfl]; rfl)
                  rw [e0, e1, e2]
                  clear e0 e1 e2
                  go_enter Tryd.func127, Tryd.ntmps127
                  go_wp2_with (first | (go_at_call 113; refine (i_isDigit _ _).mono ?_; rintro y w' ⟨rfl, rfl⟩) | (go_at_call 69; refine (i_isLetter _ _).mono ?_; rintro y w' ⟨rfl, rfl⟩) | (go_at_call 105; refine (i_ends _ _).mono ?_; rintro y w' ⟨rfl, rfl⟩; rw [hE.out]) | (go_at_call 15; refine (i_opAt _ _ _ hs ha x1.out).mono ?_; rintro y w' ⟨rfl, rfl⟩; rw [hPH.out]))
                  refine bodyPost_ret (v := .agg #[.int .i64 0, .string ⟨#[]⟩, .int .i64 0]) (by simp [results, Tryd.results127, go_sem]) rfl ⟨rfl, ?_⟩
                  repeat (first | exact Below.refl _ _ | refine Below.alloc ?_ (by simp; try omega) _ | refine Below.setCell ?_ (by simp; try omega) _)
                · obtain ⟨q1, q2, q3⟩ := hok.2 hz
                  have hpk : (pk == 0) = false := by simp; omega
                  have hzH := Lib.hid hz
                  clear hok hz
                  obtain ⟨e0, e1, e2⟩ := tok3 (show T = ⟨pk, s.extract a (a + pn), a⟩ by rw [← hTH.out, hsgH.out, if_neg hzH.out]; exact finTok_nat _ _ _ _)
                  rw [e0, e1, e2]
                  clear e0 e1 e2
                  have gj : (a : Int) + (pn : Int) ≤ (s.size : Int) := by omega
                  have gj0 : (0 : Int) ≤ (a : Int) + (pn : Int) := by omega
                  have gj1 : (a : Int) ≤ (a : Int) + (pn : Int) := by omega
                  have gjt : ((a : Int) + (pn : Int)).toNat = a + pn := by omega
                  go_enter Tryd.func127, Tryd.ntmps127
                  go_wp2_with (first | (go_at_call 113; refine (i_isDigit _ _).mono ?_; rintro y w' ⟨rfl, rfl⟩) | (go_at_call 69; refine (i_isLetter _ _).mono ?_; rintro y w' ⟨rfl, rfl⟩) | (go_at_call 105; refine (i_ends _ _).mono ?_; rintro y w' ⟨rfl, rfl⟩; rw [hE.out]) | (go_at_call 15; refine (i_opAt _ _ _ hs ha x1.out).mono ?_; rintro y w' ⟨rfl, rfl⟩; rw [hPH.out]))
                  refine bodyPost_ret (v := .agg #[.int .i64 pk, .string (s.extract a (a + pn)), .int .i64 a]) (by simp [results, Tryd.results127, go_sem]) rfl ⟨rfl, ?_⟩
                  repeat (first | exact Below.refl _ _ | refine Below.alloc ?_ (by simp; try omega) _ | refine Below.setCell ?_ (by simp; try omega) _)
              · have k6 : isLetterB (bAt s a) = true := by rw [hbn.out]; exact c6
                obtain ⟨e, he, e1, e2⟩ := nameEnd_bounds k6
                have hw := tokAt_word (before := before) k6
                rw [he, Int.toNat_natCast] at hw
                have heH := Lib.hid he
                have hwH := Lib.hid hw
                clear he hw k1 k2 k3 k4 k6
                cases c7 : nameShape (s.extract a e)
                · have c7H := Lib.hid c7
                  clear c7
                  have hae := Nat.le_of_lt e1
                  obtain ⟨e0, e1, e2⟩ := tok3 (show T = ⟨0, bs [], 0⟩ by rw [← hTH.out, hwH.out, c7H.out]; rfl)
                  rw [e0, e1, e2]
                  clear e0 e1 e2
                  go_enter Tryd.func127, Tryd.ntmps127
                  go_wp2_with (first | (go_at_call 113; refine (i_isDigit _ _).mono ?_; rintro y w' ⟨rfl, rfl⟩) | (go_at_call 69; refine (i_isLetter _ _).mono ?_; rintro y w' ⟨rfl, rfl⟩) | (go_at_call 105; refine (i_ends _ _).mono ?_; rintro y w' ⟨rfl, rfl⟩; rw [hE.out]) | (go_at_call 28; refine (i_nameEnd _ _ _ hs).mono ?_; rintro y w' ⟨rfl, rfl⟩; rw [heH.out]) | (go_at_call 17; refine (i_nameShape _ _ (by rw [size_ext _ _ _ e2]; omega)).mono ?_; rintro y w' ⟨rfl, rfl⟩; rw [c7H.out]))
                  refine bodyPost_ret (v := .agg #[.int .i64 0, .string ⟨#[]⟩, .int .i64 0]) (by simp [results, Tryd.results127, go_sem]) rfl ⟨rfl, ?_⟩
                  repeat (first | exact Below.refl _ _ | refine Below.alloc ?_ (by simp; try omega) _ | refine Below.setCell ?_ (by simp; try omega) _)
                · have c7H := Lib.hid c7
                  clear c7
                  have hae := Nat.le_of_lt e1
                  obtain ⟨e0, e1, e2⟩ := tok3 (show T = ⟨wordKind s (s.extract a e) e, s.extract a e, a⟩ by rw [← hTH.out, hwH.out, c7H.out]; rfl)
                  rw [e0, e1, e2]
                  clear e0 e1 e2
                  go_enter Tryd.func127, Tryd.ntmps127
                  go_wp2_with (first | (go_at_call 113; refine (i_isDigit _ _).mono ?_; rintro y w' ⟨rfl, rfl⟩) | (go_at_call 69; refine (i_isLetter _ _).mono ?_; rintro y w' ⟨rfl, rfl⟩) | (go_at_call 105; refine (i_ends _ _).mono ?_; rintro y w' ⟨rfl, rfl⟩; rw [hE.out]) | (go_at_call 28; refine (i_nameEnd _ _ _ hs).mono ?_; rintro y w' ⟨rfl, rfl⟩; rw [heH.out]) | (go_at_call 17; refine (i_nameShape _ _ (by rw [size_ext _ _ _ e2]; omega)).mono ?_; rintro y w' ⟨rfl, rfl⟩; rw [c7H.out]))
                  refine (i_wordToken _ _ _ _ hs hae e2 x0.out x2.out).mono ?_
                  rintro y w2 ⟨rfl, hb2⟩
                  have hh := (Has.made w 36 #[.int .i64 0, .string ⟨#[]⟩, .int .i64 0]).below hb2 (by simp)
                  have n0 := hh.get (i := 0) rfl
                  have n1 := hh.get (i := 1) rfl
                  have n2 := hh.get (i := 2) rfl
                  have fr := hh.free
                  have hlt := hh.lt
                  go_wp2_with fail
                  refine bodyPost_ret (v := .agg #[.int .i64 (wordKind s (s.extract a e) e), .string (s.extract a e), .int .i64 a]) (by simp [results, Tryd.results127, go_sem, n0, n1, n2]) rfl ⟨rfl, ?_⟩
                  have hbb : Below w.heap.size w w2 := ((Below.refl w.heap.size w).alloc (Nat.le_refl _) _).trans (hb2.mono (by simp))
                  repeat (first | exact hbb | refine Below.setCell ?_ (by simp; try omega) _)
        · have k4 : bAt s a = 34 := by rw [hbn.out]; exact eq_of_beq c4
          obtain ⟨E, hE0⟩ : ∃ E, strEnd s a = E := ⟨_, rfl⟩
          by_cases hneg : E < 0
          · have hEH := Lib.hid hE0
            clear hE0
            obtain ⟨e0, e1, e2⟩ := tok3 (show T = ⟨0, bs [], 0⟩ by rw [← hTH.out, tokAt_str k4, hEH.out, finTok_no _ _ _ hneg]; rfl)
            rw [e0, e1, e2]
            clear e0 e1 e2
            go_enter Tryd.func127, Tryd.ntmps127
            go_wp2_with (first | (go_at_call 113; refine (i_isDigit _ _).mono ?_; rintro y w' ⟨rfl, rfl⟩) | (go_at_call 25; refine (i_strEnd _ _ _ hs).mono ?_; rintro y w' ⟨rfl, rfl⟩; rw [hEH.out]))
            refine bodyPost_ret (v := .agg #[.int .i64 0, .string ⟨#[]⟩, .int .i64 0]) (by simp [results, Tryd.results127, go_sem]) rfl ⟨rfl, ?_⟩
            repeat (first | exact Below.refl _ _ | refine Below.alloc ?_ (by simp; try omega) _ | refine Below.setCell ?_ (by simp; try omega) _)
          · obtain ⟨n, rfl⟩ := Int.eq_ofNat_of_zero_le (show 0 ≤ E by omega)
            have hn : a ≤ n ∧ n ≤ s.size := by
              have := strEnd_bounds (s := s) (k := a) (by omega)
              omega
            have hEH := Lib.hid hE0
            clear hE0 hneg
            obtain ⟨e0, e1, e2⟩ := tok3 (show T = ⟨4, s.extract a n, a⟩ by rw [← hTH.out, tokAt_str k4, hEH.out, finTok_nat])
            rw [e0, e1, e2]
            clear e0 e1 e2
            go_enter Tryd.func127, Tryd.ntmps127
            go_wp2_with (first | (go_at_call 113; refine (i_isDigit _ _).mono ?_; rintro y w' ⟨rfl, rfl⟩) | (go_at_call 25; refine (i_strEnd _ _ _ hs).mono ?_; rintro y w' ⟨rfl, rfl⟩; rw [hEH.out]))
            refine bodyPost_ret (v := .agg #[.int .i64 4, .string (s.extract a n), .int .i64 a]) (by simp [results, Tryd.results127, go_sem]) rfl ⟨rfl, ?_⟩
            repeat (first | exact Below.refl _ _ | refine Below.alloc ?_ (by simp; try omega) _ | refine Below.setCell ?_ (by simp; try omega) _)
      · have k3 : (isDigitB (bAt s a) || bAt s a == 46) = true := by rw [hbn.out]; exact c3
        cases d1 : isDigitB cb
        · have d2 : (cb == 46) = true := by rw [d1] at c3; exact c3
          clear c3
          obtain ⟨E, hE0⟩ : ∃ E, numEnd s a = E := ⟨_, rfl⟩
          by_cases hneg : E < 0
          · have hEH := Lib.hid hE0
            clear hE0
            obtain ⟨e0, e1, e2⟩ := tok3 (show T = ⟨0, bs [], 0⟩ by rw [← hTH.out, tokAt_num k1 k2 k3, hEH.out, finTok_no _ _ _ hneg]; rfl)
            rw [e0, e1, e2]
            clear e0 e1 e2
            go_enter Tryd.func127, Tryd.ntmps127
            go_wp2_with (first | (go_at_call 113; refine (i_isDigit _ _).mono ?_; rintro y w' ⟨rfl, rfl⟩) | (go_at_call 21; refine (i_numEnd _ _ _ hs).mono ?_; rintro y w' ⟨rfl, rfl⟩; rw [hEH.out]))
            refine bodyPost_ret (v := .agg #[.int .i64 0, .string ⟨#[]⟩, .int .i64 0]) (by simp [results, Tryd.results127, go_sem]) rfl ⟨rfl, ?_⟩
            repeat (first | exact Below.refl _ _ | refine Below.alloc ?_ (by simp; try omega) _ | refine Below.setCell ?_ (by simp; try omega) _)
          · obtain ⟨n, rfl⟩ := Int.eq_ofNat_of_zero_le (show 0 ≤ E by omega)
            have hn : a ≤ n ∧ n ≤ s.size := by
              have := numEnd_bounds (s := s) (k := a) (by omega)
              omega
            have hEH := Lib.hid hE0
            clear hE0 hneg
            obtain ⟨e0, e1, e2⟩ := tok3 (show T = ⟨3, s.extract a n, a⟩ by rw [← hTH.out, tokAt_num k1 k2 k3, hEH.out, finTok_nat])
            rw [e0, e1, e2]
            clear e0 e1 e2
            go_enter Tryd.func127, Tryd.ntmps127
            go_wp2_with (first | (go_at_call 113; refine (i_isDigit _ _).mono ?_; rintro y w' ⟨rfl, rfl⟩) | (go_at_call 21; refine (i_numEnd _ _ _ hs).mono ?_; rintro y w' ⟨rfl, rfl⟩; rw [hEH.out]))
            refine bodyPost_ret (v := .agg #[.int .i64 3, .string (s.extract a n), .int .i64 a]) (by simp [results, Tryd.results127, go_sem]) rfl ⟨rfl, ?_⟩
            repeat (first | exact Below.refl _ _ | refine Below.alloc ?_ (by simp; try omega) _ | refine Below.setCell ?_ (by simp; try omega) _)
        · clear c3
          obtain ⟨E, hE0⟩ : ∃ E, numEnd s a = E := ⟨_, rfl⟩
          by_cases hneg : E < 0
          · have hEH := Lib.hid hE0
            clear hE0
            obtain ⟨e0, e1, e2⟩ := tok3 (show T = ⟨0, bs [], 0⟩ by rw [← hTH.out, tokAt_num k1 k2 k3, hEH.out, finTok_no _ _ _ hneg]; rfl)
            rw [e0, e1, e2]
            clear e0 e1 e2
            go_enter Tryd.func127, Tryd.ntmps127
            go_wp2_with (first | (go_at_call 113; refine (i_isDigit _ _).mono ?_; rintro y w' ⟨rfl, rfl⟩) | (go_at_call 21; refine (i_numEnd _ _ _ hs).mono ?_; rintro y w' ⟨rfl, rfl⟩; rw [hEH.out]))
            refine bodyPost_ret (v := .agg #[.int .i64 0, .string ⟨#[]⟩, .int .i64 0]) (by simp [results, Tryd.results127, go_sem]) rfl ⟨rfl, ?_⟩
            repeat (first | exact Below.refl _ _ | refine Below.alloc ?_ (by simp; try omega) _ | refine Below.setCell ?_ (by simp; try omega) _)
          · obtain ⟨n, rfl⟩ := Int.eq_ofNat_of_zero_le (show 0 ≤ E by omega)
            have hn : a ≤ n ∧ n ≤ s.size := by
              have := numEnd_bounds (s := s) (k := a) (by omega)
              omega
            have hEH := Lib.hid hE0
            clear hE0 hneg
            obtain ⟨e0, e1, e2⟩ := tok3 (show T = ⟨3, s.extract a n, a⟩ by rw [← hTH.out, tokAt_num k1 k2 k3, hEH.out, finTok_nat])
            rw [e0, e1, e2]
            clear e0 e1 e2
            go_enter Tryd.func127, Tryd.ntmps127
            go_wp2_with (first | (go_at_call 113; refine (i_isDigit _ _).mono ?_; rintro y w' ⟨rfl, rfl⟩) | (go_at_call 21; refine (i_numEnd _ _ _ hs).mono ?_; rintro y w' ⟨rfl, rfl⟩; rw [hEH.out]))
            refine bodyPost_ret (v := .agg #[.int .i64 3, .string (s.extract a n), .int .i64 a]) (by simp [results, Tryd.results127, go_sem]) rfl ⟨rfl, ?_⟩
            repeat (first | exact Below.refl _ _ | refine Below.alloc ?_ (by simp; try omega) _ | refine Below.setCell ?_ (by simp; try omega) _)
    · have k2 : bAt s a = 35 := by rw [hbn.out]; exact eq_of_beq c2
      have hix := line_ix (s := s) (a := a) (Nat.le_of_lt ha)
      have hfx := firstIdx_ge (s.extract a s.size)
      rw [size_ext _ _ _ (Nat.le_refl _)] at hfx
      obtain ⟨I, hI⟩ : ∃ I, firstIdx (s.extract a s.size) 10 = I := ⟨_, rfl⟩
      rw [hI] at hix hfx
      have hIH := Lib.hid hI
      have hixH := Lib.hid hix
      clear hI hix
      by_cases hneg : I < 0
      · have hdec : decide (0 ≤ I) = false := by simp; omega
        obtain ⟨e0, e1, e2⟩ := tok3 (show T = ⟨2, s.extract a s.size, a⟩ by rw [← hTH.out, tokAt_note k2, hixH.out, if_pos hneg, finTok_nat])
        rw [e0, e1, e2]
        clear e0 e1 e2
        go_enter Tryd.func127, Tryd.ntmps127
        go_wp2_with (go_at_call 95; refine (ixl _ _).mono ?_; rintro y w' ⟨rfl, rfl⟩; rw [hIH.out])
        refine bodyPost_ret (v := .agg #[.int .i64 2, .string (s.extract a s.size), .int .i64 a]) (by simp [results, Tryd.results127, go_sem]) rfl ⟨rfl, ?_⟩
        repeat (first | exact Below.refl _ _ | refine Below.alloc ?_ (by simp; try omega) _ | refine Below.setCell ?_ (by simp; try omega) _)
      · obtain ⟨n, rfl⟩ := Int.eq_ofNat_of_zero_le (show 0 ≤ I by omega)
        have hnegH := Lib.hid hneg
        clear hneg
        obtain ⟨e0, e1, e2⟩ := tok3 (show T = ⟨2, s.extract a (a + n), a⟩ by rw [← hTH.out, tokAt_note k2, hixH.out, if_neg hnegH.out]; exact finTok_nat s 2 a (a + n))
        rw [e0, e1, e2]
        clear e0 e1 e2
        have gj : (a : Int) + (n : Int) ≤ (s.size : Int) := by omega
        have gj0 : (0 : Int) ≤ (a : Int) + (n : Int) := by omega
        have gj1 : (a : Int) ≤ (a : Int) + (n : Int) := by omega
        have gjt : ((a : Int) + (n : Int)).toNat = a + n := by omega
        go_enter Tryd.func127, Tryd.ntmps127
        go_wp2_with (go_at_call 95; refine (ixl _ _).mono ?_; rintro y w' ⟨rfl, rfl⟩; rw [hIH.out])
        refine bodyPost_ret (v := .agg #[.int .i64 2, .string (s.extract a (a + n)), .int .i64 a]) (by simp [results, Tryd.results127, go_sem]) rfl ⟨rfl, ?_⟩
        repeat (first | exact Below.refl _ _ | refine Below.alloc ?_ (by simp; try omega) _ | refine Below.setCell ?_ (by simp; try omega) _)
  · have k1 : bAt s a = 10 := by rw [hbn.out]; exact eq_of_beq c1
    obtain ⟨e0, e1, e2⟩ := tok3 (show T = ⟨1, s.extract a (a + 1), a⟩ by rw [← hTH.out, tokAt_line k1])
    rw [e0, e1, e2]
    clear e0 e1 e2
    have gj : (a : Int) + 1 ≤ (s.size : Int) := by omega
    have gj0 : (0 : Int) ≤ (a : Int) + 1 := by omega
    have gj1 : (a : Int) ≤ (a : Int) + 1 := by omega
    have gjt : ((a : Int) + 1).toNat = a + 1 := by omega
    go_enter Tryd.func127, Tryd.ntmps127
    go_wp2_with fail
    refine bodyPost_ret (v := .agg #[.int .i64 1, .string (s.extract a (a + 1)), .int .i64 a]) (by simp [results, Tryd.results127, go_sem]) rfl ⟨rfl, ?_⟩
    repeat (first | exact Below.refl _ _ | refine Below.alloc ?_ (by simp; try omega) _ | refine Below.setCell ?_ (by simp; try omega) _)
end Go.Proofs.YtdajhcammnlonaaDoor
