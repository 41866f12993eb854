/- Several texts in one (printed by merge.py): Tokens, DrawSpell, DrawLex, LawsPlaces. -/
import Derived.Test.YtdajhcammnlonaaDoorTokOk
import Derived.Test.YtdajhcammnlonaaDoorTokensPure
import Derived.Test.YtdajhcammnlonaaDoorDrawToks
import Derived.Test.YtdajhcammnlonaaDoorDrawSpoil
import Derived.Test.YtdajhcammnlonaaDoorSpell
import Derived.Test.YtdajhcammnlonaaDoorDrawWords
import Derived.Test.YtdajhcammnlonaaDoorLexI
import Derived.Test.YtdajhcammnlonaaDoorTokensI
import Derived.Test.YtdajhcammnlonaaDoorPlacesPure
import Derived.StillTailTactics
/-! Tokens -/
namespace Go.Proofs.YtdajhcammnlonaaDoor
open Go.RowKit
set_option linter.unusedVariables false
set_option maxRecDepth 100000 in
set_option maxHeartbeats 4000000 in
theorem s_tokensOk (v : Value) (l : List PTok) (w : World) (hl : toksBulk l ≤ 1048576) (h : ToksIn w w.heap.size v l) : Calls Tryd.prog 46 #[v] w fun e w' => e = .returned (.bool (tokensOkB l)) ∧ Below w.heap.size w w' := by
  obtain ⟨A, c, rfl, hlc, hcm, hcell, hsz⟩ := h
  obtain ⟨R, hR⟩ : ∃ R, tokensOkB l = R := ⟨_, rfl⟩
  rw [hR]
  obtain ⟨n, hn⟩ : ∃ n, l.length = n := ⟨_, rfl⟩
  have hnl : n ≤ 1048576 := by unfold toksBulk at hl; omega
  have htx : Hid (∀ t ∈ l, t.text.size ≤ 16777216) := by
    show ∀ t ∈ l, _
    intro t ht
    have := tok_mem ht
    unfold toksBulk at hl
    omega
  rw [hn] at hlc hcell ⊢
  have hnH := Lib.hid hn
  have hlcH := Lib.hid hlc
  clear hl hn hlc hcm
  by_cases hbig : 3000 < n
  · have hRF : R = false := by rw [← hR, tokensOkB, decide_eq_false (by rw [hnH.out]; omega)]; rfl
    subst hRF
    clear hR hcell hsz
    go_enter Tryd.func46, Tryd.ntmps46
    go_wp2_with fail
    go_ret
    exact ⟨rfl, Below.refl _ _⟩
  have hRH : Hid (R = tokensGo 0 l) := by
    show _ = _
    rw [← hR, tokensOkB, decide_eq_true (by rw [hnH.out]; omega)]; rfl
  clear hR
  go_enter Tryd.func46, Tryd.ntmps46
  go_wp2_with fail
  go_loopw [3, 4] (fun x i wr => ∃ (j : Nat) (b : Int), j ≤ n ∧ Hid (R = tokensGo b (l.drop j)) ∧ x = .int .i64 b ∧ i = .int .i64 j ∧ Below w.heap.size w wr) (fun _ i _ => (n - (intOf i).toNat))
  case atStart => exact ⟨0, 0, by omega, hRH.out, rfl, by go_num, Below.refl _ _⟩
  case round =>
    obtain ⟨j, b, hj, hd, rfl, rfl, hb⟩ := hrel
    by_cases hlt : j < n
    · obtain ⟨nd, hnd⟩ : ∃ nd, l[j]? = some nd := ⟨l[j]'(by rw [hnH.out]; exact hlt), List.getElem?_eq_getElem _⟩
      have hmem : nd ∈ l := List.mem_of_getElem? hnd
      obtain ⟨hk, _, _⟩ := hsz nd hmem
      have ht := htx.out nd hmem
      obtain ⟨bl, off, hA, hlt2, hc⟩ := hcell (by omega)
      subst hA
      obtain ⟨e0, e1, e2⟩ := hc j nd hnd
      have hkc : ∀ o, wr.cell? ⟨bl, o, none⟩ = w.cell? ⟨bl, o, none⟩ := fun o => hb.cell (p := ⟨bl, o, none⟩) hlt2
      rw [← hkc] at e0 e1 e2
      have hstep0 := tokensGo_at (b := b) hnd
      obtain ⟨k, t, p⟩ := nd
      have hk : okI64 k := hk
      have ht : t.size ≤ 16777216 := ht
      by_cases hn1 : j + 1 < n
      · obtain ⟨u, hu⟩ : ∃ u, l[j + 1]? = some u := ⟨l[j + 1]'(by rw [hnH.out]; exact hn1), List.getElem?_eq_getElem _⟩
        obtain ⟨f0, _, _⟩ := hc (j + 1) u hu
        rw [← hkc] at f0
        have hNx := nextK_at hu
        have hu := Lib.hid hu
        obtain ⟨N, hN0⟩ : ∃ N, u.kind = N := ⟨_, rfl⟩
        rw [hNx, hN0] at hstep0
        rw [hN0] at f0
        have hstep := Lib.hid hstep0
        clear hstep0
        have hN0H := Lib.hid hN0
        clear hkc hc hcell hsz hnd hmem hNx
        cases hT : tokenOkB ⟨k, t, p⟩
        · have hT := Lib.hid hT
          have hE := Lib.hid (show endsB b = endsB b from rfl)
          have hRF : R = false := by rw [hd.out, hstep.out]; simp [stands, hT.out]
          subst hRF
          go_wp2_with (first | (go_at_call 53; refine (s_tokenOk _ _ _ _ hk ht).mono ?_; rintro e w2 ⟨rfl, hb2⟩; rw [hT.out]; have hbz := hb.trans (hb2.mono hb.size)) | (go_at_call 101; refine (s_ends _ _).mono ?_; rintro e w' ⟨rfl, rfl⟩; rw [hE.out]))
          go_ret
          exact ⟨rfl, hbz⟩
        · have hT := Lib.hid hT
          obtain ⟨E, hE⟩ : ∃ E, endsB b = E := ⟨_, rfl⟩
          have hE := Lib.hid hE
          by_cases c7 : k = 7
          · subst c7
            cases hN : N == 32
            · have hN2 : (N != 32) = true := by rw [bne, hN]; rfl
              have hN3 : N ≠ 32 := by simpa using hN
              have hRF : R = false := by rw [hd.out, hstep.out]; simp [stands, hN3]
              subst hRF
              go_wp2_with (first | (go_at_call 53; refine (s_tokenOk _ _ _ _ hk ht).mono ?_; rintro e w2 ⟨rfl, hb2⟩; rw [hT.out]; have hbz := hb.trans (hb2.mono hb.size)) | (go_at_call 101; refine (s_ends _ _).mono ?_; rintro e w' ⟨rfl, rfl⟩; rw [hE.out]))
              go_ret
              exact ⟨rfl, hbz⟩
            · have hN2 : (N != 32) = false := by rw [bne, hN]; rfl
              have hN3 : N = 32 := by simpa using hN
              have hst : Hid (R = tokensGo (7) (l.drop (j + 1))) := by show _ = _; rw [hd.out, hstep.out]; simp [stands, hT.out, hN3]
              go_wp2_with (first | (go_at_call 53; refine (s_tokenOk _ _ _ _ hk ht).mono ?_; rintro e w2 ⟨rfl, hb2⟩; rw [hT.out]; have hbz := hb.trans (hb2.mono hb.size)) | (go_at_call 101; refine (s_ends _ _).mono ?_; rintro e w' ⟨rfl, rfl⟩; rw [hE.out]))
              go_roundw
              case rel => exact ⟨j + 1, _, by omega, hst, rfl, by go_num, hbz⟩
              case measure => simp [intOf]; omega
          by_cases c2 : k = 2
          · subst c2
            cases hN : N == 1
            · have hN2 : (N != 1) = true := by rw [bne, hN]; rfl
              have hN3 : N ≠ 1 := by simpa using hN
              cases hM : N == 0
              · have hM2 : (N != 0) = true := by rw [bne, hM]; rfl
                have hM3 : N ≠ 0 := by simpa using hM
                have hRF : R = false := by rw [hd.out, hstep.out]; simp [stands, hN3, hM3]
                subst hRF
                go_wp2_with (first | (go_at_call 53; refine (s_tokenOk _ _ _ _ hk ht).mono ?_; rintro e w2 ⟨rfl, hb2⟩; rw [hT.out]; have hbz := hb.trans (hb2.mono hb.size)) | (go_at_call 101; refine (s_ends _ _).mono ?_; rintro e w' ⟨rfl, rfl⟩; rw [hE.out]))
                go_ret
                exact ⟨rfl, hbz⟩
              · have hM2 : (N != 0) = false := by rw [bne, hM]; rfl
                have hz : Hid (tokensGo 2 (l.drop (j + 1)) = false) := tokensGo_zero hu.out (by rw [hN0H.out]; simpa using hM)
                have hRF : R = false := by rw [hd.out, hstep.out, hz.out, Bool.and_false]
                subst hRF
                go_wp2_with (first | (go_at_call 53; refine (s_tokenOk _ _ _ _ hk ht).mono ?_; rintro e w2 ⟨rfl, hb2⟩; rw [hT.out]; have hbz := hb.trans (hb2.mono hb.size)) | (go_at_call 101; refine (s_ends _ _).mono ?_; rintro e w' ⟨rfl, rfl⟩; rw [hE.out]))
                go_ret
                exact ⟨rfl, hbz⟩
            · have hN2 : (N != 1) = false := by rw [bne, hN]; rfl
              have hN3 : N = 1 := by simpa using hN
              have hst : Hid (R = tokensGo (2) (l.drop (j + 1))) := by show _ = _; rw [hd.out, hstep.out]; simp [stands, hT.out, hN3]
              go_wp2_with (first | (go_at_call 53; refine (s_tokenOk _ _ _ _ hk ht).mono ?_; rintro e w2 ⟨rfl, hb2⟩; rw [hT.out]; have hbz := hb.trans (hb2.mono hb.size)) | (go_at_call 101; refine (s_ends _ _).mono ?_; rintro e w' ⟨rfl, rfl⟩; rw [hE.out]))
              go_roundw
              case rel => exact ⟨j + 1, _, by omega, hst, rfl, by go_num, hbz⟩
              case measure => simp [intOf]; omega
          by_cases c5 : k = 5
          · subst c5
            cases E
            · skip
              have hst : Hid (R = tokensGo (5) (l.drop (j + 1))) := by show _ = _; rw [hd.out, hstep.out]; simp [stands, hT.out, hE.out]
              go_wp2_with (first | (go_at_call 53; refine (s_tokenOk _ _ _ _ hk ht).mono ?_; rintro e w2 ⟨rfl, hb2⟩; rw [hT.out]; have hbz := hb.trans (hb2.mono hb.size)) | (go_at_call 101; refine (s_ends _ _).mono ?_; rintro e w' ⟨rfl, rfl⟩; rw [hE.out]))
              go_roundw
              case rel => exact ⟨j + 1, _, by omega, hst, rfl, by go_num, hbz⟩
              case measure => simp [intOf]; omega
            · skip
              have hRF : R = false := by rw [hd.out, hstep.out]; simp [stands, hT.out, hE.out]
              subst hRF
              go_wp2_with (first | (go_at_call 53; refine (s_tokenOk _ _ _ _ hk ht).mono ?_; rintro e w2 ⟨rfl, hb2⟩; rw [hT.out]; have hbz := hb.trans (hb2.mono hb.size)) | (go_at_call 101; refine (s_ends _ _).mono ?_; rintro e w' ⟨rfl, rfl⟩; rw [hE.out]))
              go_ret
              exact ⟨rfl, hbz⟩
          by_cases c58 : k = 58
          · subst c58
            cases E
            · skip
              have hRF : R = false := by rw [hd.out, hstep.out]; simp [stands, hT.out, hE.out]
              subst hRF
              go_wp2_with (first | (go_at_call 53; refine (s_tokenOk _ _ _ _ hk ht).mono ?_; rintro e w2 ⟨rfl, hb2⟩; rw [hT.out]; have hbz := hb.trans (hb2.mono hb.size)) | (go_at_call 101; refine (s_ends _ _).mono ?_; rintro e w' ⟨rfl, rfl⟩; rw [hE.out]))
              go_ret
              exact ⟨rfl, hbz⟩
            · skip
              have hst : Hid (R = tokensGo (58) (l.drop (j + 1))) := by show _ = _; rw [hd.out, hstep.out]; simp [stands, hT.out, hE.out]
              go_wp2_with (first | (go_at_call 53; refine (s_tokenOk _ _ _ _ hk ht).mono ?_; rintro e w2 ⟨rfl, hb2⟩; rw [hT.out]; have hbz := hb.trans (hb2.mono hb.size)) | (go_at_call 101; refine (s_ends _ _).mono ?_; rintro e w' ⟨rfl, rfl⟩; rw [hE.out]))
              go_roundw
              case rel => exact ⟨j + 1, _, by omega, hst, rfl, by go_num, hbz⟩
              case measure => simp [intOf]; omega
          by_cases c41 : k = 41
          · subst c41
            cases E
            · skip
              have hRF : R = false := by rw [hd.out, hstep.out]; simp [stands, hT.out, hE.out]
              subst hRF
              go_wp2_with (first | (go_at_call 53; refine (s_tokenOk _ _ _ _ hk ht).mono ?_; rintro e w2 ⟨rfl, hb2⟩; rw [hT.out]; have hbz := hb.trans (hb2.mono hb.size)) | (go_at_call 101; refine (s_ends _ _).mono ?_; rintro e w' ⟨rfl, rfl⟩; rw [hE.out]))
              go_ret
              exact ⟨rfl, hbz⟩
            · skip
              have hst : Hid (R = tokensGo (41) (l.drop (j + 1))) := by show _ = _; rw [hd.out, hstep.out]; simp [stands, hT.out, hE.out]
              go_wp2_with (first | (go_at_call 53; refine (s_tokenOk _ _ _ _ hk ht).mono ?_; rintro e w2 ⟨rfl, hb2⟩; rw [hT.out]; have hbz := hb.trans (hb2.mono hb.size)) | (go_at_call 101; refine (s_ends _ _).mono ?_; rintro e w' ⟨rfl, rfl⟩; rw [hE.out]))
              go_roundw
              case rel => exact ⟨j + 1, _, by omega, hst, rfl, by go_num, hbz⟩
              case measure => simp [intOf]; omega
          have d7 : (k == 7) = false := by simpa using c7
          have d2 : (k == 2) = false := by simpa using c2
          have d5 : (k == 5) = false := by simpa using c5
          have d58 : (k == 58) = false := by simpa using c58
          have d41 : (k == 41) = false := by simpa using c41
          have hst : Hid (R = tokensGo (k) (l.drop (j + 1))) := by show _ = _; rw [hd.out, hstep.out]; simp [stands, hT.out, c7, c2, c5, c58, c41]
          go_wp2_with (first | (go_at_call 53; refine (s_tokenOk _ _ _ _ hk ht).mono ?_; rintro e w2 ⟨rfl, hb2⟩; rw [hT.out]; have hbz := hb.trans (hb2.mono hb.size)) | (go_at_call 101; refine (s_ends _ _).mono ?_; rintro e w' ⟨rfl, rfl⟩; rw [hE.out]))
          go_roundw
          case rel => exact ⟨j + 1, _, by omega, hst, rfl, by go_num, hbz⟩
          case measure => simp [intOf]; omega
      · have hNx := nextK_no (l := l) (j := j) (by rw [hnH.out]; omega)
        rw [hNx] at hstep0
        have hstep := Lib.hid hstep0
        clear hstep0 hkc hc hcell hsz hnd hmem hNx
        cases hT : tokenOkB ⟨k, t, p⟩
        · have hT := Lib.hid hT
          have hE := Lib.hid (show endsB b = endsB b from rfl)
          have hRF : R = false := by rw [hd.out, hstep.out]; simp [stands, hT.out]
          subst hRF
          go_wp2_with (first | (go_at_call 53; refine (s_tokenOk _ _ _ _ hk ht).mono ?_; rintro e w2 ⟨rfl, hb2⟩; rw [hT.out]; have hbz := hb.trans (hb2.mono hb.size)) | (go_at_call 101; refine (s_ends _ _).mono ?_; rintro e w' ⟨rfl, rfl⟩; rw [hE.out]))
          go_ret
          exact ⟨rfl, hbz⟩
        · have hT := Lib.hid hT
          obtain ⟨E, hE⟩ : ∃ E, endsB b = E := ⟨_, rfl⟩
          have hE := Lib.hid hE
          by_cases c7 : k = 7
          · subst c7
            have hRF : R = false := by rw [hd.out, hstep.out]; simp [stands, hT.out]
            subst hRF
            go_wp2_with (first | (go_at_call 53; refine (s_tokenOk _ _ _ _ hk ht).mono ?_; rintro e w2 ⟨rfl, hb2⟩; rw [hT.out]; have hbz := hb.trans (hb2.mono hb.size)) | (go_at_call 101; refine (s_ends _ _).mono ?_; rintro e w' ⟨rfl, rfl⟩; rw [hE.out]))
            go_ret
            exact ⟨rfl, hbz⟩
          by_cases c2 : k = 2
          · subst c2
            have hst : Hid (R = tokensGo (2) (l.drop (j + 1))) := by show _ = _; rw [hd.out, hstep.out]; simp [stands, hT.out]
            go_wp2_with (first | (go_at_call 53; refine (s_tokenOk _ _ _ _ hk ht).mono ?_; rintro e w2 ⟨rfl, hb2⟩; rw [hT.out]; have hbz := hb.trans (hb2.mono hb.size)) | (go_at_call 101; refine (s_ends _ _).mono ?_; rintro e w' ⟨rfl, rfl⟩; rw [hE.out]))
            go_roundw
            case rel => exact ⟨j + 1, _, by omega, hst, rfl, by go_num, hbz⟩
            case measure => simp [intOf]; omega
          by_cases c5 : k = 5
          · subst c5
            cases E
            · skip
              have hst : Hid (R = tokensGo (5) (l.drop (j + 1))) := by show _ = _; rw [hd.out, hstep.out]; simp [stands, hT.out, hE.out]
              go_wp2_with (first | (go_at_call 53; refine (s_tokenOk _ _ _ _ hk ht).mono ?_; rintro e w2 ⟨rfl, hb2⟩; rw [hT.out]; have hbz := hb.trans (hb2.mono hb.size)) | (go_at_call 101; refine (s_ends _ _).mono ?_; rintro e w' ⟨rfl, rfl⟩; rw [hE.out]))
              go_roundw
              case rel => exact ⟨j + 1, _, by omega, hst, rfl, by go_num, hbz⟩
              case measure => simp [intOf]; omega
            · skip
              have hRF : R = false := by rw [hd.out, hstep.out]; simp [stands, hT.out, hE.out]
              subst hRF
              go_wp2_with (first | (go_at_call 53; refine (s_tokenOk _ _ _ _ hk ht).mono ?_; rintro e w2 ⟨rfl, hb2⟩; rw [hT.out]; have hbz := hb.trans (hb2.mono hb.size)) | (go_at_call 101; refine (s_ends _ _).mono ?_; rintro e w' ⟨rfl, rfl⟩; rw [hE.out]))
              go_ret
              exact ⟨rfl, hbz⟩
          by_cases c58 : k = 58
          · subst c58
            cases E
            · skip
              have hRF : R = false := by rw [hd.out, hstep.out]; simp [stands, hT.out, hE.out]
              subst hRF
              go_wp2_with (first | (go_at_call 53; refine (s_tokenOk _ _ _ _ hk ht).mono ?_; rintro e w2 ⟨rfl, hb2⟩; rw [hT.out]; have hbz := hb.trans (hb2.mono hb.size)) | (go_at_call 101; refine (s_ends _ _).mono ?_; rintro e w' ⟨rfl, rfl⟩; rw [hE.out]))
              go_ret
              exact ⟨rfl, hbz⟩
            · skip
              have hst : Hid (R = tokensGo (58) (l.drop (j + 1))) := by show _ = _; rw [hd.out, hstep.out]; simp [stands, hT.out, hE.out]
              go_wp2_with (first | (go_at_call 53; refine (s_tokenOk _ _ _ _ hk ht).mono ?_; rintro e w2 ⟨rfl, hb2⟩; rw [hT.out]; have hbz := hb.trans (hb2.mono hb.size)) | (go_at_call 101; refine (s_ends _ _).mono ?_; rintro e w' ⟨rfl, rfl⟩; rw [hE.out]))
              go_roundw
              case rel => exact ⟨j + 1, _, by omega, hst, rfl, by go_num, hbz⟩
              case measure => simp [intOf]; omega
          by_cases c41 : k = 41
          · subst c41
            cases E
            · skip
              have hRF : R = false := by rw [hd.out, hstep.out]; simp [stands, hT.out, hE.out]
              subst hRF
              go_wp2_with (first | (go_at_call 53; refine (s_tokenOk _ _ _ _ hk ht).mono ?_; rintro e w2 ⟨rfl, hb2⟩; rw [hT.out]; have hbz := hb.trans (hb2.mono hb.size)) | (go_at_call 101; refine (s_ends _ _).mono ?_; rintro e w' ⟨rfl, rfl⟩; rw [hE.out]))
              go_ret
              exact ⟨rfl, hbz⟩
            · skip
              have hst : Hid (R = tokensGo (41) (l.drop (j + 1))) := by show _ = _; rw [hd.out, hstep.out]; simp [stands, hT.out, hE.out]
              go_wp2_with (first | (go_at_call 53; refine (s_tokenOk _ _ _ _ hk ht).mono ?_; rintro e w2 ⟨rfl, hb2⟩; rw [hT.out]; have hbz := hb.trans (hb2.mono hb.size)) | (go_at_call 101; refine (s_ends _ _).mono ?_; rintro e w' ⟨rfl, rfl⟩; rw [hE.out]))
              go_roundw
              case rel => exact ⟨j + 1, _, by omega, hst, rfl, by go_num, hbz⟩
              case measure => simp [intOf]; omega
          have d7 : (k == 7) = false := by simpa using c7
          have d2 : (k == 2) = false := by simpa using c2
          have d5 : (k == 5) = false := by simpa using c5
          have d58 : (k == 58) = false := by simpa using c58
          have d41 : (k == 41) = false := by simpa using c41
          have hst : Hid (R = tokensGo (k) (l.drop (j + 1))) := by show _ = _; rw [hd.out, hstep.out]; simp [stands, hT.out, c7, c5, c58, c41]
          go_wp2_with (first | (go_at_call 53; refine (s_tokenOk _ _ _ _ hk ht).mono ?_; rintro e w2 ⟨rfl, hb2⟩; rw [hT.out]; have hbz := hb.trans (hb2.mono hb.size)) | (go_at_call 101; refine (s_ends _ _).mono ?_; rintro e w' ⟨rfl, rfl⟩; rw [hE.out]))
          go_roundw
          case rel => exact ⟨j + 1, _, by omega, hst, rfl, by go_num, hbz⟩
          case measure => simp [intOf]; omega
    · obtain rfl : j = n := by omega
      have hRT : R = true := by rw [hd.out, tokensGo_end (by rw [hnH.out]; exact Nat.le_refl _)]
      subst hRT
      clear hcell hsz
      go_wp2_with fail
      go_ret
      exact ⟨rfl, hb⟩
end Go.Proofs.YtdajhcammnlonaaDoor
/-! DrawSpell -/
namespace Go.Proofs.YtdajhcammnlonaaDoor
open Go.RowKit
set_option linter.unusedVariables false
theorem drawn_sum : ∀ {l : List PTok}, (∀ t ∈ l, drawnTok t) → tokSum l ≤ 16 * l.length
  | [], _ => by simp [tokSum]
  | t :: l, h => by
    have h1 := (h t (List.mem_cons_self ..)).2.1
    have h2 := drawn_sum (l := l) (fun u hu => h u (List.mem_cons_of_mem _ hu))
    simp only [tokSum, List.length_cons]
    omega
theorem drawn_bulk {l : List PTok} (h : ∀ t ∈ l, drawnTok t) : toksBulk l ≤ 17 * l.length := by
  have := drawn_sum h
  unfold toksBulk
  omega
def RetToksF (w : World) (e : Ending) (w' : World) : Prop := ∃ v l, e = .returned v ∧ ToksIn w' w'.heap.size v l ∧ (∀ t ∈ l, drawnTok t) ∧ l.length ≤ 28 ∧ Below w.heap.size w w'
set_option maxHeartbeats 1000000 in
theorem d_drawSpell (v : Value) (cs : List UInt8) (w : World) (hl : cs.length ≤ 1048576) (h : BytesIn w w.heap.size v cs) : Calls Tryd.prog 43 #[v] w (RetToksF w) := by
  have hB := Lib.hid h
  obtain ⟨A, c, rfl, r⟩ := h
  clear r
  go_enter Tryd.func43, Tryd.ntmps43
  go_wp2_with fail
  refine (d_new _ cs _ hl hB.out).mono ?_
  rintro e w1 ⟨g, s, rfl, hg, hc1, hb1⟩
  have hc1 := Lib.hid hc1
  have hb1 := Lib.hid hb1
  go_wp2_with fail
  refine (d_tokens g cs s 14 w1 (by omega) hc1.out).mono ?_
  rintro e w2 ⟨v2, l2, s2, rfl, h2, f2, d2, n2, hc2, ha2⟩
  have hb2 := Lib.hid (ha2.below_then hb1.out hg hb1.out.size)
  go_wp2_with fail
  exact bodyPost_ret (v := v2) (by simp [results, Tryd.results43, go_sem]) rfl ⟨_, l2, rfl, h2, d2, by omega, hb2.out⟩
end Go.Proofs.YtdajhcammnlonaaDoor
/-! DrawLex -/
namespace Go.Proofs.YtdajhcammnlonaaDoor
open Go.RowKit
set_option linter.unusedVariables false
theorem spellGo_lenD : ∀ (l : List PTok) (p : Option PTok), (spellGo p l).length ≤ l.length + tokSum l
  | [], p => by cases p <;> simp [spellGo, tokSum]
  | t :: r, none => by
    have h := spellGo_lenD r (some t)
    have e : t.text.data.toList.length = t.text.size := (Lib.size_eq _).symm
    simp only [spellGo, List.length_append, List.length_cons, tokSum]
    omega
  | t :: r, some a => by
    have h := spellGo_lenD r (some t)
    have e : t.text.data.toList.length = t.text.size := (Lib.size_eq _).symm
    have e2 : (if gapB a t = true then ([32] : List UInt8) else []).length ≤ 1 := by split <;> simp
    simp only [spellGo, List.length_append, List.length_cons, tokSum]
    omega
theorem spellL_lenD (l : List PTok) : (spellL l).size ≤ toksBulk l := by
  have h := spellGo_lenD l none
  have e : (spellL l).size = (spellGo none l).length := by rw [Lib.size_eq, spellL]; simp [bs]
  unfold toksBulk
  omega
def tailS : List ByteArray := [⟨#[92, 10]⟩, ⟨#[32, 9]⟩, ⟨#[97, 98, 99, 100, 101, 102, 103, 104, 105, 106, 107, 108, 109]⟩, ⟨#[64]⟩, ⟨#[34, 111, 112, 101, 110]⟩, ⟨#[47, 120]⟩, ⟨#[46, 46]⟩, ⟨#[35, 32, 101, 110, 100]⟩]
def tailT : List ByteArray := [⟨#[]⟩, ⟨#[120]⟩]
theorem tailS_size : ∀ x ∈ tailS, x.size ≤ 16 := by decide
theorem tailT_size : ∀ x ∈ tailT, x.size ≤ 16 := by decide
def RetSrc (w : World) (g : Nat) (cs : List UInt8) (e : Ending) (w' : World) : Prop := ∃ (x : ByteArray) (s' : Nat × Int), x.size ≤ 1000 ∧ e = .returned (.string x) ∧ Cur w' g cs s' ∧ Away g w w'
set_option maxRecDepth 100000 in
set_option maxHeartbeats 2000000 in
theorem d_source (g : Nat) (cs : List UInt8) (s : Nat × Int) (w : World) (hc : Cur w g cs s) : Calls Tryd.prog 106 #[.pointer (some ⟨g, 0, none⟩)] w (RetSrc w g cs) := by
  have hlt := hc.lt
  have hcH := Lib.hid hc
  clear hc
  go_enter Tryd.func106, Tryd.ntmps106
  go_wp2_with fail
  refine (d_tokens g cs s 14 _ (by omega) hcH.out).mono ?_
  rintro e w1 ⟨v1, l1, s1, rfl, z1, f1, dr1, n1, hc1, ha1⟩
  have hbulk : toksBulk l1 ≤ 476 := by have := drawn_bulk dr1; omega
  have hX := spellL_lenD l1
  obtain ⟨X, hXX⟩ : ∃ X, spellL l1 = X := ⟨_, rfl⟩
  rw [hXX] at hX
  have hXs : X.size ≤ 476 := by omega
  have hXH := Lib.hid hXX
  have hbH := Lib.hid (show toksBulk l1 ≤ 1048576 by omega)
  have z1 := Lib.hid z1
  have hc1 := Lib.hid hc1
  have ha1 := Lib.hid ha1
  clear f1 dr1 n1 hbulk hX hXX
  go_wp2_with fail
  refine (s_spell v1 l1 _ hbH.out z1.out).mono ?_
  rintro e w2 ⟨rfl, hb2⟩
  rw [hXH.out]
  have hc2 := Lib.hid (hc1.out.later hb2)
  have ha2 := Lib.hid (ha1.out.trans (Away.of_below hb2))
  clear hb2
  go_wp2_with fail
  refine (d_below _ _ _ _ _ (by omega) hc2.out).mono ?_
  rintro e w3 ⟨rfl, hc3, ha3⟩
  obtain ⟨q, hq⟩ : ∃ q, belowD cs 6 s1 = q := ⟨_, rfl⟩
  rw [hq]
  clear hq
  have hc3 := Lib.hid hc3
  have ha3 := Lib.hid (ha2.out.trans ha3)
  by_cases q0 : q = 0
  · subst q0
    go_wp2_with fail
    refine (x_spoil g cs X _ _ (by omega) hc3.out).mono ?_
    rintro e w4 ⟨rfl, hc4, ha4⟩
    have hs := spoilX_size cs X (belowS cs 6 s1)
    obtain ⟨Y, hY⟩ : ∃ Y, (spoilX cs X (belowS cs 6 s1)).1 = Y := ⟨_, rfl⟩
    rw [hY] at hs ⊢
    have hc4 := Lib.hid hc4
    have ha4 := Lib.hid (ha3.out.trans ha4)
    clear hY
    go_wp2_with fail
    exact bodyPost_ret (v := .string Y) (by simp [results, Tryd.results106, go_sem]) rfl ⟨Y, _, by omega, rfl, hc4.out, ha4.out⟩
  by_cases q1 : q = 1
  · subst q1
    have hgl := hc3.out.lt
    have hc3b := Lib.hid (hc3.out.alloc (.cells (tailS.map fun x => Value.string x).toArray 9))
    have hS := Lib.hid (StrsAt.made w3 tailS 9)
    have ha3b := Lib.hid (ha3.out.alloc (.cells (tailS.map fun x => Value.string x).toArray 9))
    go_wp2_with fail
    refine (d_pick g cs _ _ _ _ tailS _ rfl (by decide) (by decide) (by omega) hS.out hc3b.out).mono ?_
    rintro e w4 ⟨z, hz, rfl, hc4, ha4⟩
    have hz := tailS_size z (List.mem_of_getElem? hz)
    have hgl4 := hc4.lt
    have hc4 := Lib.hid (hc4.alloc (.cells (tailT.map fun x => Value.string x).toArray 9))
    have hT := Lib.hid (StrsAt.made w4 tailT 9)
    have ha4 := Lib.hid ((ha3b.out.trans ha4).alloc (.cells (tailT.map fun x => Value.string x).toArray 9))
    go_wp2_with fail
    refine (d_pick g cs _ _ _ _ tailT _ rfl (by decide) (by decide) (by omega) hT.out hc4.out).mono ?_
    rintro e w5 ⟨y, hy, rfl, hc5, ha5⟩
    have hy := tailT_size y (List.mem_of_getElem? hy)
    have hc5 := Lib.hid hc5
    have ha5 := Lib.hid (ha4.out.trans ha5)
    go_wp2_with fail
    exact bodyPost_ret (v := .string (X ++ z ++ y)) (by simp [results, Tryd.results106, go_sem]) rfl ⟨X ++ z ++ y, _, by simp; omega, rfl, hc5.out, ha5.out⟩
  have e0 : (q == 0) = false := by simpa using q0
  have e1 : (q == 1) = false := by simpa using q1
  go_wp2_with fail
  exact bodyPost_ret (v := .string X) (by simp [results, Tryd.results106, go_sem]) rfl ⟨X, _, by omega, rfl, hc3.out, ha3.out⟩
set_option maxHeartbeats 1000000 in
theorem d_drawLex (v : Value) (cs : List UInt8) (w : World) (hl : cs.length ≤ 1048576) (h : BytesIn w w.heap.size v cs) : Calls Tryd.prog 51 #[v] w fun e w' => ∃ x : ByteArray, x.size ≤ 1000 ∧ e = .returned (.string x) ∧ Below w.heap.size w w' := by
  have hB := Lib.hid h
  obtain ⟨A, c, rfl, r⟩ := h
  clear r
  go_enter Tryd.func51, Tryd.ntmps51
  go_wp2_with fail
  refine (d_new _ cs _ hl hB.out).mono ?_
  rintro e w1 ⟨g, s, rfl, hg, hc1, hb1⟩
  have hc1 := Lib.hid hc1
  have hb1 := Lib.hid hb1
  go_wp2_with fail
  refine (d_source g cs s w1 hc1.out).mono ?_
  rintro e w2 ⟨x, s2, hx, rfl, hc2, ha2⟩
  have hb2 := Lib.hid (ha2.below_then hb1.out hg hb1.out.size)
  go_wp2_with fail
  exact bodyPost_ret (v := .string x) (by simp [results, Tryd.results51, go_sem]) rfl ⟨x, hx, rfl, hb2.out⟩
end Go.Proofs.YtdajhcammnlonaaDoor
/-! LawsPlaces -/
namespace Go.Proofs.YtdajhcammnlonaaDoor
open Go.RowKit
set_option linter.unusedVariables false
theorem places_sum {s : ByteArray} : ∀ {l : List PTok} {a : Nat}, Places s a l → a ≤ s.size → tokSum l + a ≤ s.size
  | [], a, _, h => by simp [tokSum]; exact h
  | t :: r, a, h, ha => by
    obtain ⟨h1, h2, h3, _, _, _, h4⟩ := h
    have h5 := places_sum h4 (by omega)
    simp only [tokSum]
    omega
set_option maxRecDepth 100000 in
set_option maxHeartbeats 4000000 in
theorem l_FnPlaces (v0 : Value) (a0 : List UInt8) (w : World) (t0 : TabAt w 0 kwL) (t1 : TabAt w 1 signL) (t2 : TabAt w 2 biL) (h0 : BytesIn w w.heap.size v0 a0) :
    Calls Tryd.prog 8 #[v0] w fun e w' => e = .returned (.bool true) ∧ Below w.heap.size w w' := by
  have t0 := Lib.hid t0
  have t1 := Lib.hid t1
  have t2 := Lib.hid t2
  have hB := Lib.hid h0
  obtain ⟨A, c, rfl, r⟩ := h0
  clear r
  by_cases hbig : 1048576 < a0.length
  · have hd := Lib.hid (show decide (1048576 < a0.length) = true by simpa using hbig)
    clear hbig
    go_enter Tryd.func8, Tryd.ntmps8
    go_wp2_with fail
    refine (l_big _ a0 _ hB.out).mono ?_
    rintro e w' ⟨rfl, rfl⟩
    rw [hd.out]
    go_wp2_with fail
    go_ret
    exact ⟨rfl, Below.refl _ _⟩
  · have hd := Lib.hid (show decide (1048576 < a0.length) = false by simpa using hbig)
    have hl := Lib.hid (show a0.length ≤ 1048576 by omega)
    clear hbig
    go_enter Tryd.func8, Tryd.ntmps8
    go_wp2_with fail
    refine (l_big _ a0 _ hB.out).mono ?_
    rintro e w' ⟨rfl, rfl⟩
    rw [hd.out]
    go_wp2_with fail
    refine (d_drawLex _ a0 _ hl.out hB.out).mono ?_
    rintro e w1 ⟨X, hXs, rfl, hb1⟩
    have b1 := Lib.hid hb1
    have y0 := Lib.hid (t0.out.later b1.out)
    have y1 := Lib.hid (t1.out.later b1.out)
    have y2 := Lib.hid (t2.out.later b1.out)
    have hLx := Lib.hid (lexAll_small (s := X) (by omega))
    clear hb1
    go_wp2_with fail
    refine (i_lex X _ (by omega) y0.out y1.out y2.out).mono ?_
    rintro e w3 ⟨v3, rfl, ho3, hk3, hb3⟩
    rw [hLx.out] at ho3 hk3 ⊢
    cases hG : lexGo X 0 0 with
    | error j =>
      rw [hG] at ho3 hk3
      have hj := lex_fault X X.size 0 0 j (by omega) hG
      dsimp only [lexR] at ho3 hk3 ⊢
      obtain ⟨A3, c3, rfl, r3⟩ := (show OwnT w3 w1.heap.size v3 [] from ho3).form
      clear r3
      have f3 := Lib.hid (Has.made w3 50 #[.int .i64 2, .int .i64 j])
      have b3 := Lib.hid ((b1.out.trans (hb3.mono b1.out.size)).alloc (Nat.le_trans b1.out.size hb3.size) (.cells #[.int .i64 2, .int .i64 j] 50))
      clear ho3 hk3 hb3
      go_wp2_with fail
      refine (s_lex X _ (by omega)).mono ?_
      rintro e w4 ⟨v4, rfl, ho4, hk4, hb4⟩
      have f4 := Lib.hid (f3.out.below hb4 (by simp))
      have hs4 : w3.heap.size < w4.heap.size := f4.out.lt
      have b4 := Lib.hid (b3.out.trans (hb4.mono b3.out.size))
      have b5 := Lib.hid (b4.out.alloc b4.out.size (.cells #[.int .i64 2, .int .i64 j] 50))
      rw [hLx.out, hG] at ho4 hk4 ⊢
      dsimp only [lexR] at ho4 hk4 ⊢
      have n0 := f4.out.get (i := 0) rfl
      have n1 := f4.out.get (i := 1) rfl
      clear ho4 hk4 hb4
      go_wp2_with fail
      go_ret
      exact ⟨ret_bool (by simp; omega), b5.out⟩
    | ok L =>
      rw [hG] at ho3 hk3
      obtain ⟨hP, hT, hn⟩ := lex_places X X.size 0 0 0 L (by omega) hG (Nat.le_refl _) (fun k h1 h2 => by omega)
      dsimp only [lexR] at ho3 hk3 ⊢
      have hsum := places_sum hP (Nat.zero_le _)
      have hTok := Lib.hid (show tokensOkB L = true by unfold tokensOkB; rw [hT, decide_eq_true (by omega)]; rfl)
      have hbulk := Lib.hid (show toksBulk L ≤ 1048576 by unfold toksBulk; omega)
      have okL : Hid (∀ t ∈ L, okTok t) := hk3
      have hP0 := Lib.hid hP
      have hX0 := Lib.hid hXs
      have hB3 : Below w3.heap.size w3 (w3.alloc (.cells #[.int .i64 0, .int .i64 0] 50)) := (Below.refl w3.heap.size w3).alloc (Nat.le_refl _) _
      have x3 := Lib.hid (((show OwnT w3 w1.heap.size v3 L from ho3).toks okL.out).1.keep hB3 (Nat.le_refl _) |>.more hB3.size)
      have b3 := Lib.hid ((b1.out.trans (hb3.mono b1.out.size)).trans (hB3.mono (Nat.le_trans b1.out.size hb3.size)))
      clear ho3 hk3 hb3 hB3 hP hT hsum hG
      obtain ⟨A3, c3, rfl, hc3, hcm3, hcell, hok⟩ := x3.out
      obtain ⟨n, hnL⟩ : ∃ n, L.length = n := ⟨_, rfl⟩
      rw [hnL] at hn hc3 hcell ⊢
      have hnH := Lib.hid hnL
      have x3v := x3.out
      rw [hnL] at x3v
      have x3 := Lib.hid x3v
      clear x3v
      clear hnL hok hc3 hcm3
      have hcell := Lib.hid hcell
      have f3 := Has.made w3 50 #[.int .i64 0, .int .i64 0]
      have n0 := f3.get (i := 0) rfl
      go_upto_region 8 with fail
      obtain ⟨W3, hW3⟩ : ∃ W3, w3.alloc (.cells #[.int .i64 0, .int .i64 0] 50) = W3 := ⟨_, rfl⟩
      rw [hW3] at x3 b3 hcell ⊢
      clear hW3 f3 n0
      go_wp2_with fail
      go_loopw [8, 9] (fun x i wr => ∃ (a j : Nat), j ≤ n ∧ a ≤ X.size ∧ Hid (Places X a (L.drop j)) ∧ x = .int .i64 a ∧ i = .int .i64 j ∧ Hid (Below W3.heap.size W3 wr)) (fun _ i _ => (n - (intOf i).toNat))
      case atStart => exact ⟨0, 0, by omega, by omega, hP0, by go_num, by go_num, Below.refl _ _⟩
      case round =>
        obtain ⟨a, j, hj, ha, hP, rfl, rfl, hb⟩ := hrel
        by_cases hlt : j < n
        · obtain ⟨⟨k, x, p⟩, hnd⟩ : ∃ nd, L[j]? = some nd := ⟨L[j]'(by rw [hnH.out]; exact hlt), List.getElem?_eq_getElem _⟩
          obtain ⟨hk, htm, _⟩ := okL.out _ (List.mem_of_getElem? hnd)
          have hk : okI64 k := hk
          obtain ⟨bl, off, hA, hlt2, hc⟩ := hcell.out (by omega)
          subst hA
          obtain ⟨e0, e1, e2⟩ := hc j _ hnd
          dsimp only at e0 e1 e2
          have hkc := Lib.hid (fun (W : World) (hW : Below W3.heap.size W3 W) (o : Nat) => hW.cell (p := ⟨bl, o, none⟩) hlt2)
          have q0 := Lib.hid e0
          have q1 := Lib.hid e1
          have q2 := Lib.hid e2
          rw [← hkc.out wr hb.out] at e0 e1 e2
          have hdr : L.drop j = ⟨k, x, p⟩ :: L.drop (j + 1) := by
            rw [List.drop_eq_getElem_cons (by rw [hnH.out]; exact hlt)]
            congr 1
            exact Option.some.inj ((List.getElem?_eq_getElem _).symm.trans hnd)
          have hP1 := hP.out
          rw [hdr] at hP1
          obtain ⟨p1, p2, p3, p4, p5, p6, p7⟩ := hP1
          dsimp only at p1 p2 p3 p4 p6 p7
          obtain ⟨pn, rfl⟩ := Int.eq_ofNat_of_zero_le (show 0 ≤ p by omega)
          obtain ⟨xn, hxn⟩ : ∃ xn, x.size = xn := ⟨_, rfl⟩
          rw [hxn] at p2 p3 p4 p7 htm
          rw [show ((pn : Nat) : Int).toNat = pn from rfl] at p4 p7
          have hxnH := Lib.hid hxn
          have hpx : pn + xn ≤ X.size := by omega
          have p5 := Lib.hid p5
          have p6 := Lib.hid p6
          have p7 := Lib.hid p7
          have g1 : ((pn : Int) < (a : Int)) = False := by simp; omega
          have g2 : ((xn : Int) == 0) = false := by simp; omega
          have g3 : IntKind.i64.wrap ((pn : Int) + (xn : Int)) = (pn : Int) + (xn : Int) := IntWalk.i64_in _ (by omega)
          have g4 : ((X.size : Int) < (pn : Int) + (xn : Int)) = False := by simp; omega
          have g5 : ((pn : Int) + (xn : Int)).toNat = pn + xn := by omega
          have g6 : (pn : Int) + (xn : Int) ≤ (X.size : Int) := by omega
          have g7 : (pn : Int) ≤ (pn : Int) + (xn : Int) := by omega
          clear hnd hc hlt2 hdr p3
          go_wp2_with fail
          go_still_tail 50, (by kernel_rfl)
          change wpList _ _ _ _ _ wr.drew
          have hbd : Below W3.heap.size W3 wr.drew := below_drewN hb.out 1
          clear e0 e1 e2 hb
          generalize wr.drew = w5 at hbd ⊢
          go_wp2_with fail
          refine (s_tokenOk _ _ _ _ hk (by rw [hxnH.out]; omega)).mono ?_
          rintro e w6 ⟨rfl, hb6⟩
          rw [p5.out]
          have hb6 := Lib.hid (hbd.trans (hb6.mono hbd.size))
          have e2 := (hkc.out w6 hb6.out _).trans q2.out
          clear hbd
          go_wp2_with fail
          go_loopw [11] (fun z wr2 => ∃ kk : Nat, a ≤ kk ∧ kk ≤ pn ∧ z = .int .i64 kk ∧ w6 = wr2) (fun z _ => pn - (intOf z).toNat)
          case atStart => exact ⟨a, by omega, by omega, by go_num, rfl⟩
          case round =>
            obtain ⟨kk, hk1, hk2, rfl, rfl⟩ := hrel
            by_cases hkp : kk < pn
            · have hkX : kk < X.size := by omega
              have hbb := p6.out kk hk1 (by omega)
              rw [bAt_nat hkX] at hbb
              obtain ⟨cb, hcb⟩ : ∃ cb : Int, ((X[kk]).toNat : Int) = cb := ⟨_, rfl⟩
              rw [hcb] at hbb
              rcases hbb with rfl | rfl | rfl | rfl
              all_goals
                (go_wp2_with fail
                 go_roundw
                 case rel => exact ⟨kk + 1, by omega, by omega, by go_num, by first | trivial | rfl⟩
                 case measure => simp [intOf]; omega)
            · obtain rfl : kk = pn := by omega
              go_wp2_with fail
              go_roundw
              case rel => exact ⟨kk + xn, j + 1, by omega, by omega, p7, by go_num, by go_num, hb6⟩
              case measure => simp [intOf]; omega
        · obtain rfl : j = n := by omega
          have c9 := Lib.hid (b3.out.trans (hb.out.mono b3.out.size))
          have x9 := Lib.hid ((x3.out.keep hb.out (Nat.le_refl _)).more hb.out.size)
          clear hb
          go_wp2_with fail
          refine (s_tokensOk _ L _ hbulk.out x9.out).mono ?_
          rintro e w7 ⟨rfl, hb7⟩
          rw [hTok.out]
          have c7 := Lib.hid (c9.out.trans (hb7.mono c9.out.size))
          have x7 := Lib.hid ((x9.out.keep hb7 (Nat.le_refl _)).more hb7.size)
          clear hb7
          have y0 := Lib.hid (t0.out.later c7.out)
          have y1 := Lib.hid (t1.out.later c7.out)
          have y2 := Lib.hid (t2.out.later c7.out)
          go_wp2_with fail
          refine (i_tokensOk _ L _ hbulk.out x7.out y0.out y1.out y2.out).mono ?_
          rintro e w8 ⟨rfl, hb8⟩
          rw [hTok.out]
          have c8 := Lib.hid (c7.out.trans (hb8.mono c7.out.size))
          clear hb8
          go_wp2_with fail
          go_ret
          exact ⟨rfl, c8.out⟩
end Go.Proofs.YtdajhcammnlonaaDoor
