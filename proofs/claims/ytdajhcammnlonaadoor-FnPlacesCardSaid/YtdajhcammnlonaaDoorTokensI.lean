/- Whether a list of tokens is valid, in the program (walk). -/
import Derived.Test.YtdajhcammnlonaaDoorTokOkI
import Derived.Test.YtdajhcammnlonaaDoorTokensPure
namespace Go.Proofs.YtdajhcammnlonaaDoor
open Go.RowKit
set_option linter.unusedVariables false
set_option maxRecDepth 100000 in
set_option maxHeartbeats 4000000 in
theorem i_tokensOk (v : Value) (l : List PTok) (w : World) (hl : toksBulk l ≤ 1048576) (h : ToksIn w w.heap.size v l) (t0 : TabAt w 0 kwL) (t1 : TabAt w 1 signL) (t2 : TabAt w 2 biL) : Calls Tryd.prog 50 #[v] w fun e w' => e = .returned (.bool (tokensOkB l)) ∧ Below w.heap.size w w' := by
  obtain ⟨A, c, rfl, hlc, hcm, hcell, hsz⟩ := h
  have t0H := Lib.hid t0
  have t1H := Lib.hid t1
  have t2H := Lib.hid t2
  clear t0 t1 t2
  obtain ⟨R, hR⟩ : ∃ R, tokensOkB l = R := ⟨_, rfl⟩
  rw [hR]
  obtain ⟨n, hn⟩ : ∃ n, l.length = n := ⟨_, rfl⟩
  have hnl : n ≤ 1048576 := by unfold toksBulk at hl; omega
  have htx : Hid (∀ t ∈ l, t.text.size ≤ 16777216) := by
    show ∀ t ∈ l, _
    intro t ht
    have := tok_mem ht
    unfold toksBulk at hl
    omega
  rw [hn] at hlc hcell ⊢
  have hnH := Lib.hid hn
  have hlcH := Lib.hid hlc
  clear hl hn hlc hcm
  by_cases hbig : 3000 < n
  · have hRF : R = false := by rw [← hR, tokensOkB, decide_eq_false (by rw [hnH.out]; omega)]; rfl
    subst hRF
    clear hR hcell hsz
    go_enter Tryd.func50, Tryd.ntmps50
    go_wp2_with fail
    go_ret
    exact ⟨rfl, Below.refl _ _⟩
  have hRH : Hid (R = tokensGo 0 l) := by
    show _ = _
    rw [← hR, tokensOkB, decide_eq_true (by rw [hnH.out]; omega)]; rfl
  clear hR
  go_enter Tryd.func50, Tryd.ntmps50
  go_wp2_with fail
  go_loopw [3, 12] (fun x i wr => ∃ (j : Nat) (b : Int), j ≤ n ∧ Hid (R = tokensGo b (l.drop j)) ∧ x = .int .i64 b ∧ i = .int .i64 j ∧ Below w.heap.size w wr) (fun _ i _ => (n - (intOf i).toNat))
  case atStart => exact ⟨0, 0, by omega, hRH.out, rfl, by go_num, Below.refl _ _⟩
  case round =>
    obtain ⟨j, b, hj, hd, rfl, rfl, hb⟩ := hrel
    by_cases hlt : j < n
    · obtain ⟨nd, hnd⟩ : ∃ nd, l[j]? = some nd := ⟨l[j]'(by rw [hnH.out]; exact hlt), List.getElem?_eq_getElem _⟩
      have hmem : nd ∈ l := List.mem_of_getElem? hnd
      obtain ⟨hk, _, _⟩ := hsz nd hmem
      have ht := htx.out nd hmem
      obtain ⟨bl, off, hA, hlt2, hc⟩ := hcell (by omega)
      subst hA
      obtain ⟨e0, e1, e2⟩ := hc j nd hnd
      have hkc : ∀ o, wr.cell? ⟨bl, o, none⟩ = w.cell? ⟨bl, o, none⟩ := fun o => hb.cell (p := ⟨bl, o, none⟩) hlt2
      rw [← hkc] at e0 e1 e2
      have hstep0 := tokensGo_at (b := b) hnd
      obtain ⟨k, t, p⟩ := nd
      have hk : okI64 k := hk
      have ht : t.size ≤ 16777216 := ht
      have y0 := Lib.hid (t0H.out.later hb)
      have y1 := Lib.hid (t1H.out.later hb)
      have y2 := Lib.hid (t2H.out.later hb)
      obtain ⟨m0, m1, m2, mb, mlt⟩ := tok_box wr (.int .i64 k) (.string t) (.int .i64 p) 36
      have g0 := Lib.hid (y0.out.later mb)
      have g1 := Lib.hid (y1.out.later mb)
      have g2 := Lib.hid (y2.out.later mb)
      have x0 := Lib.hid m0
      have hltb := Lib.hid mlt
      have hba := Lib.hid (hb.trans (mb.mono hb.size))
      have hkA : ∀ o, (wr.alloc (.cells #[.int .i64 k, .string t, .int .i64 p] 36)).cell? ⟨bl, o, none⟩ = wr.cell? ⟨bl, o, none⟩ := fun o => mb.cell (p := ⟨bl, o, none⟩) (Nat.lt_of_lt_of_le hlt2 hb.size)
      clear m0 m1 m2 mb mlt
      by_cases hn1 : j + 1 < n
      · obtain ⟨u, hu⟩ : ∃ u, l[j + 1]? = some u := ⟨l[j + 1]'(by rw [hnH.out]; exact hn1), List.getElem?_eq_getElem _⟩
        obtain ⟨f0, _, _⟩ := hc (j + 1) u hu
        rw [← hkc, ← hkA] at f0
        have hNx := nextK_at hu
        have hu := Lib.hid hu
        obtain ⟨N, hN0⟩ : ∃ N, u.kind = N := ⟨_, rfl⟩
        rw [hNx, hN0] at hstep0
        rw [hN0] at f0
        have hstep := Lib.hid hstep0
        clear hstep0
        have hN0H := Lib.hid hN0
        clear hkA hkc hc hcell hsz hnd hmem hNx
        cases hT : tokenOkB ⟨k, t, p⟩
        · have hT := Lib.hid hT
          have hE := Lib.hid (show endsB b = endsB b from rfl)
          have hRF : R = false := by rw [hd.out, hstep.out]; simp [stands, hT.out]
          subst hRF
          go_wp2_with fail
          refine (i_tokenOk _ _ _ _ hk ht g0.out g1.out g2.out).mono ?_
          rintro e w2 ⟨rfl, hb2⟩
          rw [hT.out]
          have z0 := (hb2.cell (p := ⟨wr.heap.size, 0, none⟩) hltb.out).trans x0.out
          have hbz := hba.out.trans (hb2.mono hba.out.size)
          clear hb2
          go_wp2_with (go_at_call 105; refine (i_ends _ _).mono ?_; rintro e w' ⟨rfl, rfl⟩; rw [hE.out])
          go_ret
          exact ⟨rfl, hbz⟩
        · have hT := Lib.hid hT
          obtain ⟨E, hE⟩ : ∃ E, endsB b = E := ⟨_, rfl⟩
          have hE := Lib.hid hE
          by_cases c7 : k = 7
          · subst c7
            cases hN : N == 32
            · have hN2 : (N != 32) = true := by rw [bne, hN]; rfl
              have hN3 : N ≠ 32 := by simpa using hN
              have hRF : R = false := by rw [hd.out, hstep.out]; simp [stands, hN3]
              subst hRF
              go_wp2_with fail
              refine (i_tokenOk _ _ _ _ hk ht g0.out g1.out g2.out).mono ?_
              rintro e w2 ⟨rfl, hb2⟩
              rw [hT.out]
              have z0 := (hb2.cell (p := ⟨wr.heap.size, 0, none⟩) hltb.out).trans x0.out
              have hbz := hba.out.trans (hb2.mono hba.out.size)
              clear hb2
              go_wp2_with (go_at_call 105; refine (i_ends _ _).mono ?_; rintro e w' ⟨rfl, rfl⟩; rw [hE.out])
              go_ret
              exact ⟨rfl, hbz⟩
            · have hN2 : (N != 32) = false := by rw [bne, hN]; rfl
              have hN3 : N = 32 := by simpa using hN
              have hst : Hid (R = tokensGo (7) (l.drop (j + 1))) := by show _ = _; rw [hd.out, hstep.out]; simp [stands, hT.out, hN3]
              go_wp2_with fail
              refine (i_tokenOk _ _ _ _ hk ht g0.out g1.out g2.out).mono ?_
              rintro e w2 ⟨rfl, hb2⟩
              rw [hT.out]
              have z0 := (hb2.cell (p := ⟨wr.heap.size, 0, none⟩) hltb.out).trans x0.out
              have hbz := hba.out.trans (hb2.mono hba.out.size)
              clear hb2
              go_wp2_with (go_at_call 105; refine (i_ends _ _).mono ?_; rintro e w' ⟨rfl, rfl⟩; rw [hE.out])
              go_roundw
              case rel => exact ⟨j + 1, _, by omega, hst, rfl, by go_num, hbz⟩
              case measure => simp [intOf]; omega
          by_cases c2 : k = 2
          · subst c2
            cases hN : N == 1
            · have hN2 : (N != 1) = true := by rw [bne, hN]; rfl
              have hN3 : N ≠ 1 := by simpa using hN
              cases hM : N == 0
              · have hM2 : (N != 0) = true := by rw [bne, hM]; rfl
                have hM3 : N ≠ 0 := by simpa using hM
                have hRF : R = false := by rw [hd.out, hstep.out]; simp [stands, hN3, hM3]
                subst hRF
                go_wp2_with fail
                refine (i_tokenOk _ _ _ _ hk ht g0.out g1.out g2.out).mono ?_
                rintro e w2 ⟨rfl, hb2⟩
                rw [hT.out]
                have z0 := (hb2.cell (p := ⟨wr.heap.size, 0, none⟩) hltb.out).trans x0.out
                have hbz := hba.out.trans (hb2.mono hba.out.size)
                clear hb2
                go_wp2_with (go_at_call 105; refine (i_ends _ _).mono ?_; rintro e w' ⟨rfl, rfl⟩; rw [hE.out])
                go_ret
                exact ⟨rfl, hbz⟩
              · have hM2 : (N != 0) = false := by rw [bne, hM]; rfl
                have hM3 : N = 0 := by simpa using hM
                have hst : Hid (R = tokensGo (2) (l.drop (j + 1))) := by show _ = _; rw [hd.out, hstep.out]; simp [stands, hT.out, hM3]
                go_wp2_with fail
                refine (i_tokenOk _ _ _ _ hk ht g0.out g1.out g2.out).mono ?_
                rintro e w2 ⟨rfl, hb2⟩
                rw [hT.out]
                have z0 := (hb2.cell (p := ⟨wr.heap.size, 0, none⟩) hltb.out).trans x0.out
                have hbz := hba.out.trans (hb2.mono hba.out.size)
                clear hb2
                go_wp2_with (go_at_call 105; refine (i_ends _ _).mono ?_; rintro e w' ⟨rfl, rfl⟩; rw [hE.out])
                go_roundw
                case rel => exact ⟨j + 1, _, by omega, hst, rfl, by go_num, hbz⟩
                case measure => simp [intOf]; omega
            · have hN2 : (N != 1) = false := by rw [bne, hN]; rfl
              have hN3 : N = 1 := by simpa using hN
              have hst : Hid (R = tokensGo (2) (l.drop (j + 1))) := by show _ = _; rw [hd.out, hstep.out]; simp [stands, hT.out, hN3]
              go_wp2_with fail
              refine (i_tokenOk _ _ _ _ hk ht g0.out g1.out g2.out).mono ?_
              rintro e w2 ⟨rfl, hb2⟩
              rw [hT.out]
              have z0 := (hb2.cell (p := ⟨wr.heap.size, 0, none⟩) hltb.out).trans x0.out
              have hbz := hba.out.trans (hb2.mono hba.out.size)
              clear hb2
              go_wp2_with (go_at_call 105; refine (i_ends _ _).mono ?_; rintro e w' ⟨rfl, rfl⟩; rw [hE.out])
              go_roundw
              case rel => exact ⟨j + 1, _, by omega, hst, rfl, by go_num, hbz⟩
              case measure => simp [intOf]; omega
          by_cases c5 : k = 5
          · subst c5
            cases E
            · skip
              have hst : Hid (R = tokensGo (5) (l.drop (j + 1))) := by show _ = _; rw [hd.out, hstep.out]; simp [stands, hT.out, hE.out]
              go_wp2_with fail
              refine (i_tokenOk _ _ _ _ hk ht g0.out g1.out g2.out).mono ?_
              rintro e w2 ⟨rfl, hb2⟩
              rw [hT.out]
              have z0 := (hb2.cell (p := ⟨wr.heap.size, 0, none⟩) hltb.out).trans x0.out
              have hbz := hba.out.trans (hb2.mono hba.out.size)
              clear hb2
              go_wp2_with (go_at_call 105; refine (i_ends _ _).mono ?_; rintro e w' ⟨rfl, rfl⟩; rw [hE.out])
              go_roundw
              case rel => exact ⟨j + 1, _, by omega, hst, rfl, by go_num, hbz⟩
              case measure => simp [intOf]; omega
            · skip
              have hRF : R = false := by rw [hd.out, hstep.out]; simp [stands, hT.out, hE.out]
              subst hRF
              go_wp2_with fail
              refine (i_tokenOk _ _ _ _ hk ht g0.out g1.out g2.out).mono ?_
              rintro e w2 ⟨rfl, hb2⟩
              rw [hT.out]
              have z0 := (hb2.cell (p := ⟨wr.heap.size, 0, none⟩) hltb.out).trans x0.out
              have hbz := hba.out.trans (hb2.mono hba.out.size)
              clear hb2
              go_wp2_with (go_at_call 105; refine (i_ends _ _).mono ?_; rintro e w' ⟨rfl, rfl⟩; rw [hE.out])
              go_ret
              exact ⟨rfl, hbz⟩
          by_cases c58 : k = 58
          · subst c58
            cases E
            · skip
              have hRF : R = false := by rw [hd.out, hstep.out]; simp [stands, hT.out, hE.out]
              subst hRF
              go_wp2_with fail
              refine (i_tokenOk _ _ _ _ hk ht g0.out g1.out g2.out).mono ?_
              rintro e w2 ⟨rfl, hb2⟩
              rw [hT.out]
              have z0 := (hb2.cell (p := ⟨wr.heap.size, 0, none⟩) hltb.out).trans x0.out
              have hbz := hba.out.trans (hb2.mono hba.out.size)
              clear hb2
              go_wp2_with (go_at_call 105; refine (i_ends _ _).mono ?_; rintro e w' ⟨rfl, rfl⟩; rw [hE.out])
              go_ret
              exact ⟨rfl, hbz⟩
            · skip
              have hst : Hid (R = tokensGo (58) (l.drop (j + 1))) := by show _ = _; rw [hd.out, hstep.out]; simp [stands, hT.out, hE.out]
              go_wp2_with fail
              refine (i_tokenOk _ _ _ _ hk ht g0.out g1.out g2.out).mono ?_
              rintro e w2 ⟨rfl, hb2⟩
              rw [hT.out]
              have z0 := (hb2.cell (p := ⟨wr.heap.size, 0, none⟩) hltb.out).trans x0.out
              have hbz := hba.out.trans (hb2.mono hba.out.size)
              clear hb2
              go_wp2_with (go_at_call 105; refine (i_ends _ _).mono ?_; rintro e w' ⟨rfl, rfl⟩; rw [hE.out])
              go_roundw
              case rel => exact ⟨j + 1, _, by omega, hst, rfl, by go_num, hbz⟩
              case measure => simp [intOf]; omega
          by_cases c41 : k = 41
          · subst c41
            cases E
            · skip
              have hRF : R = false := by rw [hd.out, hstep.out]; simp [stands, hT.out, hE.out]
              subst hRF
              go_wp2_with fail
              refine (i_tokenOk _ _ _ _ hk ht g0.out g1.out g2.out).mono ?_
              rintro e w2 ⟨rfl, hb2⟩
              rw [hT.out]
              have z0 := (hb2.cell (p := ⟨wr.heap.size, 0, none⟩) hltb.out).trans x0.out
              have hbz := hba.out.trans (hb2.mono hba.out.size)
              clear hb2
              go_wp2_with (go_at_call 105; refine (i_ends _ _).mono ?_; rintro e w' ⟨rfl, rfl⟩; rw [hE.out])
              go_ret
              exact ⟨rfl, hbz⟩
            · skip
              have hst : Hid (R = tokensGo (41) (l.drop (j + 1))) := by show _ = _; rw [hd.out, hstep.out]; simp [stands, hT.out, hE.out]
              go_wp2_with fail
              refine (i_tokenOk _ _ _ _ hk ht g0.out g1.out g2.out).mono ?_
              rintro e w2 ⟨rfl, hb2⟩
              rw [hT.out]
              have z0 := (hb2.cell (p := ⟨wr.heap.size, 0, none⟩) hltb.out).trans x0.out
              have hbz := hba.out.trans (hb2.mono hba.out.size)
              clear hb2
              go_wp2_with (go_at_call 105; refine (i_ends _ _).mono ?_; rintro e w' ⟨rfl, rfl⟩; rw [hE.out])
              go_roundw
              case rel => exact ⟨j + 1, _, by omega, hst, rfl, by go_num, hbz⟩
              case measure => simp [intOf]; omega
          have d7 : (k == 7) = false := by simpa using c7
          have d2 : (k == 2) = false := by simpa using c2
          have d5 : (k == 5) = false := by simpa using c5
          have d58 : (k == 58) = false := by simpa using c58
          have d41 : (k == 41) = false := by simpa using c41
          have hst : Hid (R = tokensGo (k) (l.drop (j + 1))) := by show _ = _; rw [hd.out, hstep.out]; simp [stands, hT.out, c7, c2, c5, c58, c41]
          go_wp2_with fail
          refine (i_tokenOk _ _ _ _ hk ht g0.out g1.out g2.out).mono ?_
          rintro e w2 ⟨rfl, hb2⟩
          rw [hT.out]
          have z0 := (hb2.cell (p := ⟨wr.heap.size, 0, none⟩) hltb.out).trans x0.out
          have hbz := hba.out.trans (hb2.mono hba.out.size)
          clear hb2
          go_wp2_with (go_at_call 105; refine (i_ends _ _).mono ?_; rintro e w' ⟨rfl, rfl⟩; rw [hE.out])
          go_roundw
          case rel => exact ⟨j + 1, _, by omega, hst, rfl, by go_num, hbz⟩
          case measure => simp [intOf]; omega
      · have hNx := nextK_no (l := l) (j := j) (by rw [hnH.out]; omega)
        rw [hNx] at hstep0
        have hstep := Lib.hid hstep0
        clear hstep0 hkA hkc hc hcell hsz hnd hmem hNx
        cases hT : tokenOkB ⟨k, t, p⟩
        · have hT := Lib.hid hT
          have hE := Lib.hid (show endsB b = endsB b from rfl)
          have hRF : R = false := by rw [hd.out, hstep.out]; simp [stands, hT.out]
          subst hRF
          go_wp2_with fail
          refine (i_tokenOk _ _ _ _ hk ht g0.out g1.out g2.out).mono ?_
          rintro e w2 ⟨rfl, hb2⟩
          rw [hT.out]
          have z0 := (hb2.cell (p := ⟨wr.heap.size, 0, none⟩) hltb.out).trans x0.out
          have hbz := hba.out.trans (hb2.mono hba.out.size)
          clear hb2
          go_wp2_with (go_at_call 105; refine (i_ends _ _).mono ?_; rintro e w' ⟨rfl, rfl⟩; rw [hE.out])
          go_ret
          exact ⟨rfl, hbz⟩
        · have hT := Lib.hid hT
          obtain ⟨E, hE⟩ : ∃ E, endsB b = E := ⟨_, rfl⟩
          have hE := Lib.hid hE
          by_cases c7 : k = 7
          · subst c7
            have hRF : R = false := by rw [hd.out, hstep.out]; simp [stands, hT.out]
            subst hRF
            go_wp2_with fail
            refine (i_tokenOk _ _ _ _ hk ht g0.out g1.out g2.out).mono ?_
            rintro e w2 ⟨rfl, hb2⟩
            rw [hT.out]
            have z0 := (hb2.cell (p := ⟨wr.heap.size, 0, none⟩) hltb.out).trans x0.out
            have hbz := hba.out.trans (hb2.mono hba.out.size)
            clear hb2
            go_wp2_with (go_at_call 105; refine (i_ends _ _).mono ?_; rintro e w' ⟨rfl, rfl⟩; rw [hE.out])
            go_ret
            exact ⟨rfl, hbz⟩
          by_cases c2 : k = 2
          · subst c2
            have hst : Hid (R = tokensGo (2) (l.drop (j + 1))) := by show _ = _; rw [hd.out, hstep.out]; simp [stands, hT.out]
            go_wp2_with fail
            refine (i_tokenOk _ _ _ _ hk ht g0.out g1.out g2.out).mono ?_
            rintro e w2 ⟨rfl, hb2⟩
            rw [hT.out]
            have z0 := (hb2.cell (p := ⟨wr.heap.size, 0, none⟩) hltb.out).trans x0.out
            have hbz := hba.out.trans (hb2.mono hba.out.size)
            clear hb2
            go_wp2_with (go_at_call 105; refine (i_ends _ _).mono ?_; rintro e w' ⟨rfl, rfl⟩; rw [hE.out])
            go_roundw
            case rel => exact ⟨j + 1, _, by omega, hst, rfl, by go_num, hbz⟩
            case measure => simp [intOf]; omega
          by_cases c5 : k = 5
          · subst c5
            cases E
            · skip
              have hst : Hid (R = tokensGo (5) (l.drop (j + 1))) := by show _ = _; rw [hd.out, hstep.out]; simp [stands, hT.out, hE.out]
              go_wp2_with fail
              refine (i_tokenOk _ _ _ _ hk ht g0.out g1.out g2.out).mono ?_
              rintro e w2 ⟨rfl, hb2⟩
              rw [hT.out]
              have z0 := (hb2.cell (p := ⟨wr.heap.size, 0, none⟩) hltb.out).trans x0.out
              have hbz := hba.out.trans (hb2.mono hba.out.size)
              clear hb2
              go_wp2_with (go_at_call 105; refine (i_ends _ _).mono ?_; rintro e w' ⟨rfl, rfl⟩; rw [hE.out])
              go_roundw
              case rel => exact ⟨j + 1, _, by omega, hst, rfl, by go_num, hbz⟩
              case measure => simp [intOf]; omega
            · skip
              have hRF : R = false := by rw [hd.out, hstep.out]; simp [stands, hT.out, hE.out]
              subst hRF
              go_wp2_with fail
              refine (i_tokenOk _ _ _ _ hk ht g0.out g1.out g2.out).mono ?_
              rintro e w2 ⟨rfl, hb2⟩
              rw [hT.out]
              have z0 := (hb2.cell (p := ⟨wr.heap.size, 0, none⟩) hltb.out).trans x0.out
              have hbz := hba.out.trans (hb2.mono hba.out.size)
              clear hb2
              go_wp2_with (go_at_call 105; refine (i_ends _ _).mono ?_; rintro e w' ⟨rfl, rfl⟩; rw [hE.out])
              go_ret
              exact ⟨rfl, hbz⟩
          by_cases c58 : k = 58
          · subst c58
            cases E
            · skip
              have hRF : R = false := by rw [hd.out, hstep.out]; simp [stands, hT.out, hE.out]
              subst hRF
              go_wp2_with fail
              refine (i_tokenOk _ _ _ _ hk ht g0.out g1.out g2.out).mono ?_
              rintro e w2 ⟨rfl, hb2⟩
              rw [hT.out]
              have z0 := (hb2.cell (p := ⟨wr.heap.size, 0, none⟩) hltb.out).trans x0.out
              have hbz := hba.out.trans (hb2.mono hba.out.size)
              clear hb2
              go_wp2_with (go_at_call 105; refine (i_ends _ _).mono ?_; rintro e w' ⟨rfl, rfl⟩; rw [hE.out])
              go_ret
              exact ⟨rfl, hbz⟩
            · skip
              have hst : Hid (R = tokensGo (58) (l.drop (j + 1))) := by show _ = _; rw [hd.out, hstep.out]; simp [stands, hT.out, hE.out]
              go_wp2_with fail
              refine (i_tokenOk _ _ _ _ hk ht g0.out g1.out g2.out).mono ?_
              rintro e w2 ⟨rfl, hb2⟩
              rw [hT.out]
              have z0 := (hb2.cell (p := ⟨wr.heap.size, 0, none⟩) hltb.out).trans x0.out
              have hbz := hba.out.trans (hb2.mono hba.out.size)
              clear hb2
              go_wp2_with (go_at_call 105; refine (i_ends _ _).mono ?_; rintro e w' ⟨rfl, rfl⟩; rw [hE.out])
              go_roundw
              case rel => exact ⟨j + 1, _, by omega, hst, rfl, by go_num, hbz⟩
              case measure => simp [intOf]; omega
          by_cases c41 : k = 41
          · subst c41
            cases E
            · skip
              have hRF : R = false := by rw [hd.out, hstep.out]; simp [stands, hT.out, hE.out]
              subst hRF
              go_wp2_with fail
              refine (i_tokenOk _ _ _ _ hk ht g0.out g1.out g2.out).mono ?_
              rintro e w2 ⟨rfl, hb2⟩
              rw [hT.out]
              have z0 := (hb2.cell (p := ⟨wr.heap.size, 0, none⟩) hltb.out).trans x0.out
              have hbz := hba.out.trans (hb2.mono hba.out.size)
              clear hb2
              go_wp2_with (go_at_call 105; refine (i_ends _ _).mono ?_; rintro e w' ⟨rfl, rfl⟩; rw [hE.out])
              go_ret
              exact ⟨rfl, hbz⟩
            · skip
              have hst : Hid (R = tokensGo (41) (l.drop (j + 1))) := by show _ = _; rw [hd.out, hstep.out]; simp [stands, hT.out, hE.out]
              go_wp2_with fail
              refine (i_tokenOk _ _ _ _ hk ht g0.out g1.out g2.out).mono ?_
              rintro e w2 ⟨rfl, hb2⟩
              rw [hT.out]
              have z0 := (hb2.cell (p := ⟨wr.heap.size, 0, none⟩) hltb.out).trans x0.out
              have hbz := hba.out.trans (hb2.mono hba.out.size)
              clear hb2
              go_wp2_with (go_at_call 105; refine (i_ends _ _).mono ?_; rintro e w' ⟨rfl, rfl⟩; rw [hE.out])
              go_roundw
              case rel => exact ⟨j + 1, _, by omega, hst, rfl, by go_num, hbz⟩
              case measure => simp [intOf]; omega
          have d7 : (k == 7) = false := by simpa using c7
          have d2 : (k == 2) = false := by simpa using c2
          have d5 : (k == 5) = false := by simpa using c5
          have d58 : (k == 58) = false := by simpa using c58
          have d41 : (k == 41) = false := by simpa using c41
          have hst : Hid (R = tokensGo (k) (l.drop (j + 1))) := by show _ = _; rw [hd.out, hstep.out]; simp [stands, hT.out, c7, c5, c58, c41]
          go_wp2_with fail
          refine (i_tokenOk _ _ _ _ hk ht g0.out g1.out g2.out).mono ?_
          rintro e w2 ⟨rfl, hb2⟩
          rw [hT.out]
          have z0 := (hb2.cell (p := ⟨wr.heap.size, 0, none⟩) hltb.out).trans x0.out
          have hbz := hba.out.trans (hb2.mono hba.out.size)
          clear hb2
          go_wp2_with (go_at_call 105; refine (i_ends _ _).mono ?_; rintro e w' ⟨rfl, rfl⟩; rw [hE.out])
          go_roundw
          case rel => exact ⟨j + 1, _, by omega, hst, rfl, by go_num, hbz⟩
          case measure => simp [intOf]; omega
    · obtain rfl : j = n := by omega
      have hRT : R = true := by rw [hd.out, tokensGo_end (by rw [hnH.out]; exact Nat.le_refl _)]
      subst hRT
      clear hcell hsz
      go_wp2_with fail
      go_ret
      exact ⟨rfl, hb⟩
end Go.Proofs.YtdajhcammnlonaaDoor
