/- The tokens of a text, both sides: Lex (walks). -/
import Derived.Test.YtdajhcammnlonaaDoorLexFrom
import Derived.Test.YtdajhcammnlonaaDoorTokAtS
namespace Go.Proofs.YtdajhcammnlonaaDoor
open Go.RowKit
set_option linter.unusedVariables false

theorem lexAll_big {s : ByteArray} (h : 3000 < s.size) : lexAll s = ([], 1, 0) := by unfold lexAll; rw [if_pos h]
theorem lexAll_small {s : ByteArray} (h : ¬ 3000 < s.size) : lexAll s = lexR (lexGo s 0 0) := by unfold lexAll; rw [if_neg h]
theorem RetLex.large {w wx : World} {v : Value} {b : Nat} (ho : OwnT wx b v []) (hb0 : w.heap.size ≤ b) (hb : Below w.heap.size w wx) : RetLex w ([], 1, 0) (.returned (.tuple #[v, .agg #[.int .i64 1, .int .i64 0]])) wx :=
  ⟨_, rfl, ho.less hb0, (fun t ht => by cases ht), hb⟩
theorem RetLex.badv {w wx : World} {r : Except Nat (List PTok)} {j b : Nat} {v : Value} (h : r = .error j) (ho : OwnT wx b v []) (hb0 : w.heap.size ≤ b) (hb : Below w.heap.size w wx) : RetLex w (lexR r) (.returned (.tuple #[v, .agg #[.int .i64 2, .int .i64 j]])) wx := by
  subst h
  exact ⟨_, rfl, ho.less hb0, (fun t ht => by cases ht), hb⟩
/-- an empty slice that has just been made, behind one other block -/
theorem own_new2 {base n : Nat} (x : World) (o : Obj) (hx : x.heap.size = n) (h : base ≤ n + 1) : OwnT ((x.alloc o).alloc (.cells #[] 36)) base (.slice (some ⟨n + 1, 0, none⟩) 0 0) [] := by
  have h1 := OwnT.start (x.alloc o) (base := base) (by simp; omega)
  rw [show (x.alloc o).heap.size = n + 1 by simp; omega] at h1
  exact h1
set_option maxHeartbeats 1000000 in
theorem i_lex (s : ByteArray) (w : World) (hs0 : s.size ≤ 1048576) (t0 : TabAt w 0 kwL) (t1 : TabAt w 1 signL) (t2 : TabAt w 2 biL) :
    Calls Tryd.prog 45 #[.string s] w (RetLex w (lexAll s)) := by
  by_cases h : 3000 < s.size
  · rw [lexAll_big h]
    clear t0 t1 t2
    go_enter Tryd.func45, Tryd.ntmps45
    go_wp2_with fail
    refine bodyPost_ret (v := .tuple #[.slice none 0 0, .agg #[.int .i64 1, .int .i64 0]]) (by simp [results, Tryd.results45, go_sem]) rfl (RetLex.large (OwnT.nil _ w.heap.size) (Nat.le_refl _) ?_)
    repeat (first | exact Below.refl _ _ | refine Below.alloc ?_ (by simp; try omega) _ | refine Below.setCell ?_ (by simp; try omega) _)
  · rw [lexAll_small h]
    obtain ⟨R, hR⟩ : ∃ R, lexGo s 0 0 = R := ⟨_, rfl⟩
    rw [hR]
    have hRH := Lib.hid hR
    clear hR
    have hb : Below w.heap.size w (w.alloc (.cells #[.int .i64 0, .int .i64 0] 50)) := (Below.refl _ _).alloc (Nat.le_refl _) _
    have x0 := Lib.hid (t0.later hb)
    have x1 := Lib.hid (t1.later hb)
    have x2 := Lib.hid (t2.later hb)
    have hbH := Lib.hid hb
    clear t0 t1 t2 hb
    go_enter Tryd.func45, Tryd.ntmps45
    go_wp2_with fail
    refine (i_lexFrom s 0 0 _ hs0 (Nat.zero_le _) x0.out x1.out x2.out).mono ?_
    rintro e w1 ⟨v, rfl, ho, hl, hb1⟩
    rw [hRH.out] at ho hl ⊢
    have hf := (Has.made w 50 #[.int .i64 0, .int .i64 0]).below hb1 (by simp)
    have n0 := hf.get (i := 0) rfl
    have n1 := hf.get (i := 1) rfl
    have nf := hf.free
    have nl := hf.lt
    have ho2 := Lib.hid ho
    have hl2 := Lib.hid hl
    have hb2 := Lib.hid (hbH.out.trans (hb1.mono hbH.out.size))
    clear hf ho hl hb1
    obtain ⟨f1, hf1⟩ : ∃ f1, (lexR R).2.1 = f1 := ⟨_, rfl⟩
    obtain ⟨f2, hf2⟩ : ∃ f2, (lexR R).2.2 = f2 := ⟨_, rfl⟩
    rw [hf1, hf2]
    have hf1H := Lib.hid hf1
    have hf2H := Lib.hid hf2
    clear hf1 hf2
    go_wp2_with fail
    refine bodyPost_ret (v := .tuple #[v, .agg #[.int .i64 f1, .int .i64 f2]]) (by simp [results, Tryd.results45, go_sem, n0, n1]) rfl ⟨v, by rw [hf1H.out, hf2H.out], ?_, hl2.out, ?_⟩
    · exact ((ho2.out.set (p := ⟨w.heap.size, 0, none⟩) (by simp) _).set (p := ⟨w.heap.size, 1, none⟩) (by simp) _).less (by simp)
    · repeat (first | exact hb2.out | refine Below.setCell ?_ (by simp; try omega) _)
set_option maxRecDepth 100000 in
set_option maxHeartbeats 4000000 in
theorem s_lex (s : ByteArray) (w : World) (hs0 : s.size ≤ 1048576) :
    Calls Tryd.prog 52 #[.string s] w (RetLex w (lexAll s)) := by
  have hs : s.size ≤ 16777216 := by omega
  by_cases h : 3000 < s.size
  · rw [lexAll_big h]
    go_enter Tryd.func52, Tryd.ntmps52
    go_wp2_with fail
    refine bodyPost_ret (v := .tuple #[.slice (some ⟨w.heap.size + 1, 0, none⟩) 0 0, .agg #[.int .i64 1, .int .i64 0]]) (by simp [results, Tryd.results52, go_sem]) rfl (RetLex.large (b := w.heap.size + 1) ?_ (by omega) ?_)
    · first | exact own_start w _ | exact ((own_start w _).set (Nat.lt_succ_self _) _).set (Nat.lt_succ_self _) _
    · repeat (first | exact Below.refl _ _ | refine Below.alloc ?_ (by simp; try omega) _ | refine Below.setCell ?_ (by simp; try omega) _)
  rw [lexAll_small h]
  obtain ⟨R, hR⟩ : ∃ R, lexGo s 0 0 = R := ⟨_, rfl⟩
  rw [hR]
  have hRH := Lib.hid hR
  clear hR
  go_enter Tryd.func52, Tryd.ntmps52
  go_wp2_with fail
  go_loopw [4, 5, 6] (fun z y x wr => ∃ (j : Nat) (b : Int) (l : List PTok), j ≤ s.size ∧ Hid (R = joinL l (lexGo s j b) ∧ l.length ≤ j ∧ ∀ t ∈ l, okTok t) ∧ x = .int .i64 j ∧ y = .int .i64 b ∧ OwnT wr (w.heap.size + 1) z l ∧ z ≠ .slice none 0 0 ∧ Has wr w.heap.size 50 #[.int .i64 0, .int .i64 0] ∧ w.heap.size + 1 ≤ wr.heap.size ∧ Below w.heap.size w wr) (fun _ _ x _ => (s.size - (intOf x).toNat))
  case atStart => exact ⟨0, 0, [], Nat.zero_le _, ⟨by rw [joinL_nil]; exact hRH.out.symm, Nat.zero_le _, (fun t ht => by cases ht)⟩, by go_num, by go_num, own_start w _, by simp, (Has.made _ _ _).alloc _, by simp, ((Below.refl _ _).alloc (Nat.le_refl _) _).alloc (by simp) _⟩
  case round =>
    obtain ⟨j, b, l, hj, hd, rfl, rfl, hown0, hnil, h70, hsz0, hb0⟩ := hrel
    rcases hown0.open with ⟨hv, _⟩ | ⟨g, cap, rfl, hgb, hgl, hc1, hc2, _⟩
    · exact absurd hv hnil
    have hown := Lib.hid hown0
    have h7 := Lib.hid h70
    have hsz := Lib.hid hsz0
    have hb := Lib.hid hb0
    clear hown0 h70 hsz0 hb0 hnil hgb hgl
    obtain ⟨n, hn⟩ : ∃ n, l.length = n := ⟨_, rfl⟩
    rw [hn] at hown hc1 ⊢
    have hnH := Lib.hid hn
    clear hn
    unfold maxLen at hc2
    by_cases hlt : j < s.size
    · have hbn0 := bAt_nat hlt
      obtain ⟨cb, h8⟩ : ∃ cb : Int, ((s[j]'hlt).toNat : Int) = cb := ⟨_, rfl⟩
      have hcb : 0 ≤ cb ∧ cb < 256 := by have := (s[j]'hlt).toNat_lt; omega
      rw [h8] at hbn0
      have hbn := Lib.hid hbn0
      clear hbn0
      obtain ⟨nb, hnb⟩ : ∃ nb, bAt s ((j : Int) + 1) = nb := ⟨_, rfl⟩
      have hnbH := Lib.hid hnb
      clear hnb
      cases c1 : isBlankB cb
      · have d1 := Lib.hid (show isBlankB (bAt s j) = false by rw [hbn.out]; exact c1)
        by_cases c92 : (cb == 92) = true ∧ (nb == 10) = true
        · -- a joined line
          obtain ⟨c2, c3⟩ := c92
          have hst : Hid (R = joinL l (lexGo s (j + 2) b) ∧ l.length ≤ j + 2 ∧ ∀ t ∈ l, okTok t) := ⟨by rw [hd.out.1, lexGo_join hlt d1.out (by rw [hbn.out]; exact eq_of_beq c2) (by rw [hnbH.out]; exact eq_of_beq c3)], by have := hd.out.2.1; omega, hd.out.2.2⟩
          have hj2 : j + 2 ≤ s.size := by
            have h1 := hnbH.out
            have h2 := bAt_range (s := s) (k := (j : Int) + 1) (by rw [h1, eq_of_beq c3]; decide)
            omega
          go_wp2_with (first | (go_at_call 107; refine (s_isBlank _ _).mono ?_; rintro y w' ⟨rfl, rfl⟩) | (go_at_call 81; refine (s_byte _ _ _ hs).mono ?_; rintro y w' ⟨rfl, rfl⟩; rw [hnbH.out]))
          go_roundw
          case rel => exact ⟨j + 2, b, l, hj2, hst, by go_num, rfl, hown.out, by simp, h7.out, hsz.out, hb.out⟩
          case measure => simp [intOf]; omega
        · -- a token
          have hnj := Lib.hid (show ¬ (bAt s j = 92 ∧ bAt s ((j : Int) + 1) = 10) by
            rintro ⟨h1, h2⟩
            rw [hbn.out] at h1
            rw [hnbH.out] at h2
            exact c92 ⟨by rw [h1]; rfl, by rw [h2]; rfl⟩)
          have hE : (cb == 92) = false ∨ ((cb == 92) = true ∧ (nb == 10) = false) := by
            cases h1 : cb == 92
            · exact .inl rfl
            · cases h2 : nb == 10
              · exact .inr ⟨rfl, rfl⟩
              · exact absurd ⟨h1, h2⟩ c92
          clear c92
          obtain ⟨T, hT⟩ : ∃ T, tokAt s j b = T := ⟨_, rfl⟩
          have hTH := Lib.hid hT
          clear hT
          by_cases hk : T.kind = 0
          · have hbad := Lib.hid (show R = .error j by rw [hd.out.1, lexGo_bad hlt d1.out hnj.out (by rw [hTH.out]; exact hk)]; rfl)
            obtain ⟨K, X, P⟩ := T
            obtain rfl : K = 0 := hk
            rcases hE with c2 | ⟨c2, c3⟩
            all_goals
              go_wp2_with (first | (go_at_call 107; refine (s_isBlank _ _).mono ?_; rintro y w' ⟨rfl, rfl⟩) | (go_at_call 101; refine (s_ends _ _).mono ?_; rintro y w' ⟨rfl, rfl⟩) | (go_at_call 81; refine (s_byte _ _ _ hs).mono ?_; rintro y w' ⟨rfl, rfl⟩; rw [hnbH.out]))
              refine (s_next _ _ b _ _ hs hlt rfl).mono ?_
              rintro y w2 ⟨rfl, hb2⟩
              rw [hTH.out]
              have h72 := h7.out.below hb2 h7.out.lt
              have n0 := h72.get (i := 0) rfl
              have n1 := h72.get (i := 1) rfl
              have nf := h72.free
              have nl := h72.lt
              have hb3 := Lib.hid (hb.out.trans (hb2.mono hb.out.size))
              have hsz2 := Nat.le_trans hsz.out hb2.size
              clear hb2 h72
              go_wp2_with fail
              have hbz := hb3.out.size
              refine bodyPost_ret (by simp [results, Tryd.results52, go_sem, n0, n1, nl]; rfl) rfl (RetLex.badv hbad.out (b := w.heap.size + 1) ?_ (by omega) ?_)
              · exact own_new2 _ _ (by simp) (by omega)
              · repeat (first | exact hb3.out | refine Below.alloc ?_ (by simp; try omega) _ | refine Below.setCell ?_ (by simp; try omega) _)
          · obtain ⟨q1, q2, q3, q4, q5⟩ := tokAt_size hlt (by rw [hTH.out]; exact hk)
            rw [hTH.out] at q1 q2 q3 q4 q5
            have hok := okTok_of hs0 hlt hTH.out hk
            obtain ⟨K, X, P⟩ := T
            obtain rfl : P = j := q5
            have hst : Hid (R = joinL (l ++ [⟨K, X, j⟩]) (lexGo s (j + X.size) K) ∧ (l ++ [(⟨K, X, j⟩ : PTok)]).length ≤ j + X.size ∧ ∀ t ∈ l ++ [⟨K, X, j⟩], okTok t) := by
              refine ⟨?_, ?_, ?_⟩
              · rw [hd.out.1, lexGo_one hlt d1.out hnj.out hTH.out hk, joinL_snoc]
              · have := hd.out.2.1
                have q1 : 0 < X.size := q1
                rw [List.length_append, List.length_singleton]
                omega
              · intro t ht
                rcases List.mem_append.1 ht with h | h
                · exact hd.out.2.2 t h
                · obtain rfl := List.mem_singleton.1 h
                  exact hok
            have hK : (K == 0) = false := by simpa using hk
            have q2 : j + X.size ≤ s.size := q2
            have q1 : 0 < X.size := q1
            have hlen := Lib.hid (show l.length + 1 ≤ 1048576 by have := hd.out.2.1; omega)
            have hn30 : ((n : Int) == 3000) = false := by
              have h1 := hd.out.2.1
              have h2 := hnH.out
              rw [beq_eq_false_iff_ne]
              omega
            have hkH := Lib.hid hk
            clear q3 q4 hok hk
            rcases hE with c2 | ⟨c2, c3⟩
            all_goals
              go_wp2_with (first | (go_at_call 107; refine (s_isBlank _ _).mono ?_; rintro y w' ⟨rfl, rfl⟩) | (go_at_call 101; refine (s_ends _ _).mono ?_; rintro y w' ⟨rfl, rfl⟩) | (go_at_call 81; refine (s_byte _ _ _ hs).mono ?_; rintro y w' ⟨rfl, rfl⟩; rw [hnbH.out]))
              refine (s_next _ _ b _ _ hs hlt rfl).mono ?_
              rintro y w2 ⟨rfl, hb2⟩
              rw [hTH.out]
              have h72 := Lib.hid (h7.out.below hb2 h7.out.lt)
              have hown2 := Lib.hid (hown.out.below hb2 (Nat.le_refl _))
              have hb3 := Lib.hid (hb.out.trans (hb2.mono hb.out.size))
              have hsz2 := Lib.hid (Nat.le_trans hsz.out hb2.size)
              clear hb2
              go_wp2_with (at_builtin; refine app_tok (by rfl) _ _ (by rfl) (w.heap.size + 1) _ l (by rfl) ((hown2.out.alloc _).alloc _) _ 1 ⟨K, X, j⟩ (by rfl) (one_newt2 _ _ ⟨K, X, j⟩ _) hlen.out (by have := hsz2.out; simp; omega) ?_; intro v' w' hown' hb' hgr hnn; have h9 := ((Has.made w2 36 #[.int .i64 K, .string X, .int .i64 j]).alloc _).grown hgr (hown2.out.apart (.inr (Nat.le_refl _))); have m0 := h9.get (i := 0) rfl; have m1 := h9.get (i := 1) rfl; have m2 := h9.get (i := 2) rfl; have hown3 := Lib.hid hown'; have hb4 := Lib.hid hb'; have hgr2 := Lib.hid hgr; have hnn2 := Lib.hid hnn; clear hown' hb' hgr hnn h9)
              have hz2 := hsz2.out
              have h74 := Lib.hid (((h72.out.alloc _).alloc _).grown hgr2.out (hown2.out.apart (.inl (Nat.lt_succ_self _))))
              go_roundw
              case rel => exact ⟨j + X.size, K, l ++ [⟨K, X, j⟩], q2, hst, by go_num, rfl, hown3.out, hnn2.out, h74.out, Nat.le_trans (by simp; omega) hb4.out.size, (((hb3.out.alloc (by omega) _).alloc (by simp; omega) _).trans (hb4.out.mono (by omega)))⟩
              case measure => simp [intOf]; omega
      · -- a blank
        have hst : Hid (R = joinL l (lexGo s (j + 1) b) ∧ l.length ≤ j + 1 ∧ ∀ t ∈ l, okTok t) := ⟨by rw [hd.out.1, lexGo_blank hlt (by rw [hbn.out]; exact c1)], by have := hd.out.2.1; omega, hd.out.2.2⟩
        go_wp2_with (go_at_call 107; refine (s_isBlank _ _).mono ?_; rintro y w' ⟨rfl, rfl⟩)
        go_roundw
        case rel => exact ⟨j + 1, b, l, by omega, hst, by go_num, rfl, hown.out, by simp, h7.out, hsz.out, hb.out⟩
        case measure => simp [intOf]; omega
    · obtain rfl : j = s.size := by omega
      have hgood := Lib.hid (show R = .ok l by rw [hd.out.1, lexGo, dif_neg (by omega)]; simp [joinL])
      have n0 := h7.out.get (i := 0) rfl
      have n1 := h7.out.get (i := 1) rfl
      have nf := h7.out.free
      go_wp2_with fail
      refine bodyPost_ret (by simp [results, Tryd.results52, go_sem, n0, n1]; rfl) rfl (RetLex.good hgood.out (b := w.heap.size + 1) ?_ (by omega) hd.out.2.2 ?_)
      · exact (hown.out.set (Nat.lt_succ_self _) _).set (Nat.lt_succ_self _) _
      · repeat (first | exact hb.out | refine Below.setCell ?_ (by simp; try omega) _)
end Go.Proofs.YtdajhcammnlonaaDoor
