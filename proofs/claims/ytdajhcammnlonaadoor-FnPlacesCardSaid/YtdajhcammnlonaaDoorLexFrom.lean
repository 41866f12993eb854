/- The tokens from a place of a text on, in the program: lexFrom, Lex (walks). -/
import Derived.Test.YtdajhcammnlonaaDoorTokAtI
import Derived.Test.YtdajhcammnlonaaDoorOwnT
import Derived.Deep.QuietTactic
import Derived.BigQuiet
namespace Go.Proofs.YtdajhcammnlonaaDoor
open Go.RowKit
set_option linter.unusedVariables false

theorem lexGo_blank {s : ByteArray} {a : Nat} {b : Int} (ha : a < s.size) (h : isBlankB (bAt s a) = true) : lexGo s a b = lexGo s (a + 1) b := by
  rw [lexGo, dif_pos ha, if_pos h]
theorem lexGo_join {s : ByteArray} {a : Nat} {b : Int} (ha : a < s.size) (h0 : isBlankB (bAt s a) = false) (h1 : bAt s a = 92) (h2 : bAt s (a + 1) = 10) : lexGo s a b = lexGo s (a + 2) b := by
  rw [lexGo, dif_pos ha, if_neg (by rw [h0]; decide), if_pos ⟨h1, h2⟩]
theorem lexGo_bad {s : ByteArray} {a : Nat} {b : Int} (ha : a < s.size) (h0 : isBlankB (bAt s a) = false) (h1 : ¬ (bAt s a = 92 ∧ bAt s (a + 1) = 10)) (h : (tokAt s a b).kind = 0) : lexGo s a b = .error a := by
  rw [lexGo, dif_pos ha, if_neg (by rw [h0]; decide), if_neg h1, dif_pos (.inl h)]
theorem lexGo_one {s : ByteArray} {a : Nat} {b : Int} {t : PTok} (ha : a < s.size) (h0 : isBlankB (bAt s a) = false) (h1 : ¬ (bAt s a = 92 ∧ bAt s (a + 1) = 10)) (ht : tokAt s a b = t) (h : t.kind ≠ 0) :
    lexGo s a b = match lexGo s (a + t.text.size) t.kind with | .error e => .error e | .ok r => .ok (t :: r) := by
  have hz := (tokAt_size ha (by rw [ht]; exact h)).1
  rw [ht] at hz
  rw [lexGo, dif_pos ha, if_neg (by rw [h0]; decide), if_neg h1, ht, dif_neg (by omega)]
  cases lexGo s (a + t.text.size) t.kind <;> rfl
/-- what comes of the rest of a text when some tokens have been read -/
def joinL (l : List PTok) : Except Nat (List PTok) → Except Nat (List PTok)
  | .error e => .error e
  | .ok r => .ok (l ++ r)
theorem joinL_nil (r : Except Nat (List PTok)) : joinL [] r = r := by cases r <;> rfl
theorem joinL_snoc (l : List PTok) (t : PTok) (r : Except Nat (List PTok)) : joinL l (match r with | .error e => .error e | .ok r => .ok (t :: r)) = joinL (l ++ [t]) r := by
  cases r
  · rfl
  · simp [joinL]
def lexR : Except Nat (List PTok) → List PTok × Int × Int
  | .ok l => (l, 0, 0)
  | .error e => ([], 2, e)
def lexAll (s : ByteArray) : List PTok × Int × Int := if 3000 < s.size then ([], 1, 0) else lexR (lexGo s 0 0)
def okTok (t : PTok) : Prop := okInt t.kind ∧ t.text.size ≤ maxLen ∧ okInt t.at_
def RetLex (w : World) (R : List PTok × Int × Int) (e : Ending) (w' : World) : Prop :=
  ∃ v, e = .returned (.tuple #[v, .agg #[.int .i64 R.2.1, .int .i64 R.2.2]]) ∧ OwnT w' w.heap.size v R.1 ∧ (∀ t ∈ R.1, okTok t) ∧ Below w.heap.size w w'
theorem OwnT.nil (w : World) (base : Nat) : OwnT w base (.slice none 0 0) [] := World.ownsRow_nil w base _ _
theorem OwnT.less {w : World} {b b' : Nat} {v : Value} {l : List PTok} (h : OwnT w b v l) (hb : b' ≤ b) : OwnT w b' v l := by
  refine ⟨h.1, ?_⟩
  rcases h.2 with h0 | ⟨g, cap, cur, hv, hb1, r⟩
  · exact .inl h0
  · exact .inr ⟨g, cap, cur, hv, by omega, r⟩
theorem OwnT.apart {w : World} {base g : Nat} {v : Value} {l : List PTok} (h : OwnT w base v l) (hg : g < base ∨ w.heap.size ≤ g) : some g ≠ v.ownBlock := by
  intro e
  have := h.lt g e.symm
  omega
theorem OwnT.set {w : World} {base : Nat} {v : Value} {l : List PTok} (h : OwnT w base v l) {p : Addr} (hp : p.block < base) (u : Value) : OwnT (w.setCell p u) base v l := by
  refine ⟨h.1, ?_⟩
  rcases h.2 with h0 | ⟨g, cap, cur, hv, hb1, hg, r⟩
  · exact .inl h0
  · exact .inr ⟨g, cap, cur, hv, hb1, (Below.heap_setCell w p u g (by omega)).trans hg, r⟩
theorem own_start (w : World) (o : Obj) : OwnT ((w.alloc o).alloc (.cells #[] 36)) (w.heap.size + 1) (.slice (some ⟨w.heap.size + 1, 0, none⟩) 0 0) [] := by
  have h := OwnT.start (w.alloc o) (base := w.heap.size + 1) (by simp)
  rw [show (w.alloc o).heap.size = w.heap.size + 1 by simp] at h
  exact h
theorem one_newt2 (w : World) (o : Obj) (t : PTok) (e : TypeId) : ∀ j b, (tokCells [t])[j]? = some b → ((w.alloc o).alloc (.cells #[.int .i64 t.kind, .string t.text, .int .i64 t.at_] e)).cell? ⟨w.heap.size + 1, j, none⟩ = some b := by
  intro j b h
  have h1 := one_newt (w.alloc o) t e j b h
  rw [show (w.alloc o).heap.size = w.heap.size + 1 by simp] at h1
  exact h1
theorem RetLex.bad {w wx : World} {r : Except Nat (List PTok)} {j : Nat} (h : r = .error j) (hb : Below w.heap.size w wx) : RetLex w (lexR r) (.returned (.tuple #[.slice none 0 0, .agg #[.int .i64 2, .int .i64 j]])) wx := by
  subst h
  exact ⟨_, rfl, OwnT.nil _ _, (fun t ht => by cases ht), hb⟩
theorem RetLex.good {w wx : World} {r : Except Nat (List PTok)} {l : List PTok} {v : Value} {b : Nat} (h : r = .ok l) (ho : OwnT wx b v l) (hb0 : w.heap.size ≤ b) (hl : ∀ t ∈ l, okTok t) (hb : Below w.heap.size w wx) : RetLex w (lexR r) (.returned (.tuple #[v, .agg #[.int .i64 0, .int .i64 0]])) wx := by
  subst h
  exact ⟨_, rfl, ho.less hb0, hl, hb⟩
theorem okTok_of {s : ByteArray} {a : Nat} {b : Int} {t : PTok} (hs : s.size ≤ 1048576) (ha : a < s.size) (ht : tokAt s a b = t) (h : t.kind ≠ 0) : okTok t := by
  obtain ⟨h1, h2, h3, h4, h5⟩ := tokAt_size ha (by rw [ht]; exact h)
  rw [ht] at h1 h2 h3 h4 h5
  unfold okTok okInt maxLen
  omega
set_option maxRecDepth 100000 in
set_option maxHeartbeats 4000000 in
theorem i_lexFrom (s : ByteArray) (a : Nat) (before : Int) (w : World) (hs0 : s.size ≤ 1048576) (ha : a ≤ s.size) (t0 : TabAt w 0 kwL) (t1 : TabAt w 1 signL) (t2 : TabAt w 2 biL) :
    Calls Tryd.prog 100 #[.string s, .int .i64 (a : Int), .int .i64 before] w (RetLex w (lexR (lexGo s a before))) := by
  have hs : s.size ≤ 16777216 := by omega
  have x0 := Lib.hid t0
  have x1 := Lib.hid t1
  have x2 := Lib.hid t2
  clear t0 t1 t2
  obtain ⟨R, hR⟩ : ∃ R, lexGo s a before = R := ⟨_, rfl⟩
  rw [hR]
  have hRH := Lib.hid hR
  clear hR
  go_enter Tryd.func100, Tryd.ntmps100
  go_wp2_with fail
  go_loopw [1, 2, 8] (fun x y z wr => ∃ (j : Nat) (b : Int) (l : List PTok), j ≤ s.size ∧ Hid (R = joinL l (lexGo s j b) ∧ l.length ≤ j ∧ ∀ t ∈ l, okTok t) ∧ x = .int .i64 j ∧ y = .int .i64 b ∧ OwnT wr (w.heap.size + 1) z l ∧ Has wr w.heap.size 50 #[.int .i64 0, .int .i64 0] ∧ w.heap.size + 1 ≤ wr.heap.size ∧ Below w.heap.size w wr) (fun x _ _ _ => (s.size - (intOf x).toNat))
  case atStart => exact ⟨a, before, [], ha, ⟨by rw [joinL_nil]; exact hRH.out.symm, Nat.zero_le _, (fun t ht => by cases ht)⟩, rfl, rfl, own_start w _, (Has.made _ _ _).alloc _, by simp, ((Below.refl _ _).alloc (Nat.le_refl _) _).alloc (by simp) _⟩
  case round =>
    obtain ⟨j, b, l, hj, hd, rfl, rfl, hown0, h70, hsz0, hb0⟩ := hrel
    have hown := Lib.hid hown0
    have h7 := Lib.hid h70
    have hsz := Lib.hid hsz0
    have hb := Lib.hid hb0
    clear hown0 h70 hsz0 hb0
    by_cases hlt : j < s.size
    · have hbn0 := bAt_nat hlt
      obtain ⟨cb, h8⟩ : ∃ cb : Int, ((s[j]'hlt).toNat : Int) = cb := ⟨_, rfl⟩
      have hcb : 0 ≤ cb ∧ cb < 256 := by have := (s[j]'hlt).toNat_lt; omega
      rw [h8] at hbn0
      have hbn := Lib.hid hbn0
      clear hbn0
      obtain ⟨nb, hnb⟩ : ∃ nb, bAt s ((j : Int) + 1) = nb := ⟨_, rfl⟩
      have hnbH := Lib.hid hnb
      clear hnb
      cases c1 : isBlankB cb
      · have d1 := Lib.hid (show isBlankB (bAt s j) = false by rw [hbn.out]; exact c1)
        by_cases c92 : (cb == 92) = true ∧ (nb == 10) = true
        · -- a joined line
          obtain ⟨c2, c3⟩ := c92
          have hst : Hid (R = joinL l (lexGo s (j + 2) b) ∧ l.length ≤ j + 2 ∧ ∀ t ∈ l, okTok t) := ⟨by rw [hd.out.1, lexGo_join hlt d1.out (by rw [hbn.out]; exact eq_of_beq c2) (by rw [hnbH.out]; exact eq_of_beq c3)], by have := hd.out.2.1; omega, hd.out.2.2⟩
          have hj2 : j + 2 ≤ s.size := by
            have h1 := hnbH.out
            have h2 := bAt_range (s := s) (k := (j : Int) + 1) (by rw [h1, eq_of_beq c3]; decide)
            omega
          go_wp2_with (first | (go_at_call 126; refine (i_isBlank _ _).mono ?_; rintro y w' ⟨rfl, rfl⟩) | (go_at_call 79; refine (i_byte _ _ _ hs).mono ?_; rintro y w' ⟨rfl, rfl⟩; rw [hnbH.out]))
          go_roundw
          case rel => exact ⟨j + 2, b, l, hj2, hst, by go_num, rfl, hown.out, h7.out, hsz.out, hb.out⟩
          case measure => simp [intOf]; omega
        · -- a token
          have hnj := Lib.hid (show ¬ (bAt s j = 92 ∧ bAt s ((j : Int) + 1) = 10) by
            rintro ⟨h1, h2⟩
            rw [hbn.out] at h1
            rw [hnbH.out] at h2
            exact c92 ⟨by rw [h1]; rfl, by rw [h2]; rfl⟩)
          have hE : (cb == 92) = false ∨ ((cb == 92) = true ∧ (nb == 10) = false) := by
            cases h1 : cb == 92
            · exact .inl rfl
            · cases h2 : nb == 10
              · exact .inr ⟨rfl, rfl⟩
              · exact absurd ⟨h1, h2⟩ c92
          clear c92
          obtain ⟨T, hT⟩ : ∃ T, tokAt s j b = T := ⟨_, rfl⟩
          have hTH := Lib.hid hT
          clear hT
          have htb : Below w.heap.size w wr := hb.out
          by_cases hk : T.kind = 0
          · have hbad := Lib.hid (show R = .error j by rw [hd.out.1, lexGo_bad hlt d1.out hnj.out (by rw [hTH.out]; exact hk)]; rfl)
            obtain ⟨K, X, P⟩ := T
            obtain rfl : K = 0 := hk
            have y0 := Lib.hid (x0.out.later htb)
            have y1 := Lib.hid (x1.out.later htb)
            have y2 := Lib.hid (x2.out.later htb)
            clear htb
            rcases hE with c2 | ⟨c2, c3⟩
            all_goals
              go_wp2_with (first | (go_at_call 126; refine (i_isBlank _ _).mono ?_; rintro y w' ⟨rfl, rfl⟩) | (go_at_call 79; refine (i_byte _ _ _ hs).mono ?_; rintro y w' ⟨rfl, rfl⟩; rw [hnbH.out]))
              refine (i_tokenAt _ _ _ _ hs hlt y0.out y1.out y2.out).mono ?_
              rintro y w2 ⟨rfl, hb2⟩
              rw [hTH.out]
              have h72 := h7.out.below hb2 h7.out.lt
              have n0 := h72.get (i := 0) rfl
              have n1 := h72.get (i := 1) rfl
              have nf := h72.free
              have nl := h72.lt
              have hb3 := Lib.hid (hb.out.trans (hb2.mono hb.out.size))
              have hsz2 := hb2.size
              clear hb2 h72
              go_wp2_with fail
              have hbz := hb3.out.size
              refine bodyPost_ret (v := .tuple #[.slice none 0 0, .agg #[.int .i64 2, .int .i64 j]]) (by simp [results, Tryd.results100, go_sem, n0, n1, nl]) rfl (RetLex.bad hbad.out ?_)
              repeat (first | exact hb3.out | refine Below.alloc ?_ (by simp; try omega) _ | refine Below.setCell ?_ (by simp; try omega) _)
          · obtain ⟨q1, q2, q3, q4, q5⟩ := tokAt_size hlt (by rw [hTH.out]; exact hk)
            rw [hTH.out] at q1 q2 q3 q4 q5
            have hok := okTok_of hs0 hlt hTH.out hk
            obtain ⟨K, X, P⟩ := T
            have hst : Hid (R = joinL (l ++ [⟨K, X, P⟩]) (lexGo s (j + X.size) K) ∧ (l ++ [(⟨K, X, P⟩ : PTok)]).length ≤ j + X.size ∧ ∀ t ∈ l ++ [⟨K, X, P⟩], okTok t) := by
              refine ⟨?_, ?_, ?_⟩
              · rw [hd.out.1, lexGo_one hlt d1.out hnj.out hTH.out hk, joinL_snoc]
              · have := hd.out.2.1
                have q1 : 0 < X.size := q1
                rw [List.length_append, List.length_singleton]
                omega
              · intro t ht
                rcases List.mem_append.1 ht with h | h
                · exact hd.out.2.2 t h
                · obtain rfl := List.mem_singleton.1 h
                  exact hok
            have hK : (K == 0) = false := by simpa using hk
            have q2 : j + X.size ≤ s.size := q2
            have q1 : 0 < X.size := q1
            have gw : IntKind.i64.wrap ((j : Int) + (X.size : Int)) = (j : Int) + (X.size : Int) := IntWalk.i64_in _ (by omega)
            have hlen := Lib.hid (show l.length + 1 ≤ 1048576 by have := hd.out.2.1; omega)
            have y0 := Lib.hid (x0.out.later htb)
            have y1 := Lib.hid (x1.out.later htb)
            have y2 := Lib.hid (x2.out.later htb)
            have hkH := Lib.hid hk
            clear htb q3 q4 q5 hok hk
            rcases hE with c2 | ⟨c2, c3⟩
            all_goals
              go_wp2_with (first | (go_at_call 126; refine (i_isBlank _ _).mono ?_; rintro y w' ⟨rfl, rfl⟩) | (go_at_call 79; refine (i_byte _ _ _ hs).mono ?_; rintro y w' ⟨rfl, rfl⟩; rw [hnbH.out]))
              refine (i_tokenAt _ _ _ _ hs hlt y0.out y1.out y2.out).mono ?_
              rintro y w2 ⟨rfl, hb2⟩
              rw [hTH.out]
              have h72 := Lib.hid (h7.out.below hb2 h7.out.lt)
              have hown2 := Lib.hid (hown.out.below hb2 (Nat.le_refl _))
              have hb3 := Lib.hid (hb.out.trans (hb2.mono hb.out.size))
              have hsz2 := Lib.hid (Nat.le_trans hsz.out hb2.size)
              clear hb2
              go_wp2_with (at_builtin; refine app_tok (by rfl) _ _ (by rfl) (w.heap.size + 1) _ l (by rfl) ((hown2.out.alloc _).alloc _) _ 1 ⟨K, X, P⟩ (by rfl) (one_newt2 _ _ ⟨K, X, P⟩ _) hlen.out (by have := hsz2.out; simp; omega) ?_; intro v' w' hown' hb' hgr hnn; have hown3 := Lib.hid hown'; have hb4 := Lib.hid hb'; have hgr2 := Lib.hid hgr; clear hown' hb' hgr hnn)
              have hz2 := hsz2.out
              have h9 := ((Has.made w2 36 #[.int .i64 K, .string X, .int .i64 P]).alloc _).grown hgr2.out (hown2.out.apart (.inr (Nat.le_refl _)))
              have m0 := h9.get (i := 0) rfl
              have m1 := h9.get (i := 1) rfl
              have m2 := h9.get (i := 2) rfl
              have h74 := Lib.hid (((h72.out.alloc _).alloc _).grown hgr2.out (hown2.out.apart (.inl (Nat.lt_succ_self _))))
              clear h9
              go_quiet (fail)
              go_wp2_with fail
              go_roundw
              case rel => exact ⟨j + X.size, K, l ++ [⟨K, X, P⟩], q2, hst, by go_num, rfl, hown3.out.drewN _, h74.out.drewN _, Nat.le_trans (by simp; omega) hb4.out.size, below_drewN (((hb3.out.alloc (by omega) _).alloc (by simp; omega) _).trans (hb4.out.mono (by omega))) _⟩
              case measure => simp [intOf]; omega
      · -- a blank
        have hst : Hid (R = joinL l (lexGo s (j + 1) b) ∧ l.length ≤ j + 1 ∧ ∀ t ∈ l, okTok t) := ⟨by rw [hd.out.1, lexGo_blank hlt (by rw [hbn.out]; exact c1)], by have := hd.out.2.1; omega, hd.out.2.2⟩
        go_wp2_with (go_at_call 126; refine (i_isBlank _ _).mono ?_; rintro y w' ⟨rfl, rfl⟩)
        go_roundw
        case rel => exact ⟨j + 1, b, l, by omega, hst, by go_num, rfl, hown.out, h7.out, hsz.out, hb.out⟩
        case measure => simp [intOf]; omega
    · obtain rfl : j = s.size := by omega
      have hgood := Lib.hid (show R = .ok l by rw [hd.out.1, lexGo, dif_neg (by omega)]; simp [joinL])
      have n0 := h7.out.get (i := 0) rfl
      have n1 := h7.out.get (i := 1) rfl
      have nf := h7.out.free
      go_wp2_with fail
      refine bodyPost_ret (by simp [results, Tryd.results100, go_sem, n0, n1]; rfl) rfl (RetLex.good hgood.out (b := w.heap.size + 1) ?_ (by omega) hd.out.2.2 ?_)
      · exact (hown.out.set (Nat.lt_succ_self _) _).set (Nat.lt_succ_self _) _
      · repeat (first | exact hb.out | refine Below.setCell ?_ (by simp; try omega) _)
end Go.Proofs.YtdajhcammnlonaaDoor
