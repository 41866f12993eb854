/- The token of a word (walks): l5Word, wordToken. -/
import Derived.Test.YtdajhcammnlonaaDoorOpAtI
import Derived.Test.YtdajhcammnlonaaDoorTokOkI
namespace Go.Proofs.YtdajhcammnlonaaDoor
open Go.RowKit
set_option linter.unusedVariables false
/-- two tokens' cells, one behind the other, as a call has laid them -/
structure Two (x : World) (g : Nat) (W : ByteArray) (a : Nat) : Prop where
  n0 : x.cell? ⟨g, 0, none⟩ = some (.int .i64 0)
  n1 : x.cell? ⟨g, 1, none⟩ = some (.string ⟨#[]⟩)
  n2 : x.cell? ⟨g, 2, none⟩ = some (.int .i64 0)
  m0 : x.cell? ⟨g + 1, 0, none⟩ = some (.int .i64 6)
  m1 : x.cell? ⟨g + 1, 1, none⟩ = some (.string W)
  m2 : x.cell? ⟨g + 1, 2, none⟩ = some (.int .i64 a)
  fg : ∀ i, x.frozen? ⟨g, i, none⟩ = false
  fh : ∀ i, x.frozen? ⟨g + 1, i, none⟩ = false
  lt : g + 1 < x.heap.size
theorem Two.of_has {x : World} {g : Nat} {W : ByteArray} {a : Nat} {t : TypeId} (h0 : Has x g t #[.int .i64 0, .string ⟨#[]⟩, .int .i64 0]) (h1 : Has x (g + 1) t #[.int .i64 6, .string W, .int .i64 a]) : Two x g W a :=
  ⟨h0.get rfl, h0.get rfl, h0.get rfl, h1.get rfl, h1.get rfl, h1.get rfl, h0.free, h1.free, h1.lt⟩
theorem two_made (w : World) (W : ByteArray) (a : Nat) : Two ((w.alloc (.cells #[.int .i64 0, .string ⟨#[]⟩, .int .i64 0] 36)).alloc (.cells #[.int .i64 6, .string W, .int .i64 a] 36)) w.heap.size W a := by
  have h1 := Has.made (w.alloc (.cells #[.int .i64 0, .string ⟨#[]⟩, .int .i64 0] 36)) 36 #[.int .i64 6, .string W, .int .i64 a]
  rw [show (w.alloc (.cells #[.int .i64 0, .string ⟨#[]⟩, .int .i64 0] 36)).heap.size = w.heap.size + 1 by simp] at h1
  exact Two.of_has ((Has.made _ _ _).alloc _) h1
theorem Two.keep {x y : World} {g : Nat} {W : ByteArray} {a B : Nat} (h : Two x g W a) (hb : Below B x y) (hB : g + 1 < B) : Two y g W a := by
  have e0 := hb.block g (by omega)
  have e1 := hb.block (g + 1) hB
  have c0 : ∀ i, y.cell? ⟨g, i, none⟩ = x.cell? ⟨g, i, none⟩ := fun i => hb.cell (p := ⟨g, i, none⟩) (show g < B by omega)
  have c1 : ∀ i, y.cell? ⟨g + 1, i, none⟩ = x.cell? ⟨g + 1, i, none⟩ := fun i => hb.cell (p := ⟨g + 1, i, none⟩) hB
  have f0 : ∀ i, y.frozen? ⟨g, i, none⟩ = x.frozen? ⟨g, i, none⟩ := fun i => by simp [World.frozen?, e0]
  have f1 : ∀ i, y.frozen? ⟨g + 1, i, none⟩ = x.frozen? ⟨g + 1, i, none⟩ := fun i => by simp [World.frozen?, e1]
  have hl := hb.size
  have hl2 := h.lt
  exact ⟨(c0 _).trans h.n0, (c0 _).trans h.n1, (c0 _).trans h.n2, (c1 _).trans h.m0, (c1 _).trans h.m1, (c1 _).trans h.m2, fun i => (f0 i).trans (h.fg i), fun i => (f1 i).trans (h.fh i), Nat.lt_of_lt_of_le hl2 hl⟩
set_option maxRecDepth 100000 in
set_option maxHeartbeats 1000000 in
theorem i_wordToken (s : ByteArray) (a e : Nat) (w : World) (hs : s.size ≤ 16777216) (hae : a ≤ e) (hes : e ≤ s.size) (t0 : TabAt w 0 kwL) (t2 : TabAt w 2 biL) :
    Calls Tryd.prog 138 #[.string s, .int .i64 (a : Int), .int .i64 (e : Int)] w fun x w' => x = .returned (.agg #[.int .i64 (wordKind s (s.extract a e) (e : Int)), .string (s.extract a e), .int .i64 (a : Int)]) ∧ Below w.heap.size w w' := by
  obtain ⟨W, hW⟩ : ∃ W, s.extract a e = W := ⟨_, rfl⟩
  rw [hW]
  have hb : Below w.heap.size w (w.alloc (.cells #[.int .i64 0, .string ⟨#[]⟩, .int .i64 0] 36)) := (Below.refl _ _).alloc (Nat.le_refl _) _
  have x0 := Lib.hid (t0.later hb)
  have x2 := Lib.hid (t2.later hb)
  clear t0 t2 hb
  have hr := keywordOf_range W
  obtain ⟨K, hK⟩ : ∃ K, keywordOf W = K := ⟨_, rfl⟩
  obtain ⟨R, hR⟩ : ∃ R, wordKind s W (e : Int) = R := ⟨_, rfl⟩
  rw [hR]
  rw [hK] at hr
  have hKH := Lib.hid hK
  have hRH : Hid (R = if K != 0 then K else if isBuiltinB W then 8 else if bAt s (e : Int) == 40 then 7 else 6) := by
    show _ = _
    rw [← hR, wordKind, hK]
  clear hK hR
  cases c1 : K != 0
  · have c1e : (K == 0) = true := by simpa using c1
    cases c2 : isBuiltinB W
    · have c2H := Lib.hid c2
      clear c2
      cases c3 : bAt s (e : Int) == 40
      · skip
        have hRe : R = 6 := by rw [hRH.out, c1, c2H.out, c3]; rfl
        subst hRe
        go_enter Tryd.func138, Tryd.ntmps138
        go_wp2_with (first | (go_at_call 13; refine (i_keywordOf _ _ x0.out).mono ?_; rintro y w' ⟨rfl, rfl⟩; rw [hKH.out]) | (go_at_call 18; refine (i_isBuiltin _ _ x2.out).mono ?_; rintro y w' ⟨rfl, rfl⟩; rw [c2H.out]) | (go_at_call 79; refine (i_byte _ _ _ hs).mono ?_; rintro y w' ⟨rfl, rfl⟩))
        refine bodyPost_ret (v := .agg #[.int .i64 6, .string W, .int .i64 a]) (by simp [results, Tryd.results138, go_sem]) rfl ⟨rfl, ?_⟩
        repeat (first | exact Below.refl _ _ | refine Below.alloc ?_ (by simp; try omega) _ | refine Below.setCell ?_ (by simp; try omega) _)
      · skip
        have hRe : R = 7 := by rw [hRH.out, c1, c2H.out, c3]; rfl
        subst hRe
        go_enter Tryd.func138, Tryd.ntmps138
        go_wp2_with (first | (go_at_call 13; refine (i_keywordOf _ _ x0.out).mono ?_; rintro y w' ⟨rfl, rfl⟩; rw [hKH.out]) | (go_at_call 18; refine (i_isBuiltin _ _ x2.out).mono ?_; rintro y w' ⟨rfl, rfl⟩; rw [c2H.out]) | (go_at_call 79; refine (i_byte _ _ _ hs).mono ?_; rintro y w' ⟨rfl, rfl⟩))
        refine bodyPost_ret (v := .agg #[.int .i64 7, .string W, .int .i64 a]) (by simp [results, Tryd.results138, go_sem]) rfl ⟨rfl, ?_⟩
        repeat (first | exact Below.refl _ _ | refine Below.alloc ?_ (by simp; try omega) _ | refine Below.setCell ?_ (by simp; try omega) _)
    · have c2H := Lib.hid c2
      clear c2
      have hRe : R = 8 := by rw [hRH.out, c1, c2H.out]; rfl
      subst hRe
      go_enter Tryd.func138, Tryd.ntmps138
      go_wp2_with (first | (go_at_call 13; refine (i_keywordOf _ _ x0.out).mono ?_; rintro y w' ⟨rfl, rfl⟩; rw [hKH.out]) | (go_at_call 18; refine (i_isBuiltin _ _ x2.out).mono ?_; rintro y w' ⟨rfl, rfl⟩; rw [c2H.out]) | (go_at_call 79; refine (i_byte _ _ _ hs).mono ?_; rintro y w' ⟨rfl, rfl⟩))
      refine bodyPost_ret (v := .agg #[.int .i64 8, .string W, .int .i64 a]) (by simp [results, Tryd.results138, go_sem]) rfl ⟨rfl, ?_⟩
      repeat (first | exact Below.refl _ _ | refine Below.alloc ?_ (by simp; try omega) _ | refine Below.setCell ?_ (by simp; try omega) _)
  · have c1e : (K == 0) = false := by simpa using c1
    have hRe : R = K := by rw [hRH.out, c1]; rfl
    rw [hRe]
    go_enter Tryd.func138, Tryd.ntmps138
    go_wp2_with (first | (go_at_call 13; refine (i_keywordOf _ _ x0.out).mono ?_; rintro y w' ⟨rfl, rfl⟩; rw [hKH.out]) | (go_at_call 18; refine (i_isBuiltin _ _ x2.out).mono ?_; rintro y w' ⟨rfl, rfl⟩; rw [c2H.out]) | (go_at_call 79; refine (i_byte _ _ _ hs).mono ?_; rintro y w' ⟨rfl, rfl⟩))
    refine bodyPost_ret (v := .agg #[.int .i64 K, .string W, .int .i64 a]) (by simp [results, Tryd.results138, go_sem]) rfl ⟨rfl, ?_⟩
    repeat (first | exact Below.refl _ _ | refine Below.alloc ?_ (by simp; try omega) _ | refine Below.setCell ?_ (by simp; try omega) _)
set_option maxRecDepth 100000 in
set_option maxHeartbeats 1000000 in
theorem s_word (s : ByteArray) (a e : Nat) (w : World) (hs : s.size ≤ 16777216) (hae : a ≤ e) (hes : e ≤ s.size) :
    Calls Tryd.prog 129 #[.string s, .int .i64 (a : Int), .int .i64 (e : Int)] w fun x w' => x = .returned (.agg #[.int .i64 (wordKind s (s.extract a e) (e : Int)), .string (s.extract a e), .int .i64 (a : Int)]) ∧ Below w.heap.size w w' := by
  obtain ⟨W, hW⟩ : ∃ W, s.extract a e = W := ⟨_, rfl⟩
  rw [hW]
  have hr := keywordOf_range W
  obtain ⟨K, hK⟩ : ∃ K, keywordOf W = K := ⟨_, rfl⟩
  obtain ⟨R, hR⟩ : ∃ R, wordKind s W (e : Int) = R := ⟨_, rfl⟩
  rw [hR]
  rw [hK] at hr
  have hKH := Lib.hid hK
  have hRH : Hid (R = if K != 0 then K else if isBuiltinB W then 8 else if bAt s (e : Int) == 40 then 7 else 6) := by
    show _ = _
    rw [← hR, wordKind, hK]
  clear hK hR
  cases c1 : K != 0
  · have c1e : (K == 0) = true := by simpa using c1
    cases c2 : isBuiltinB W
    · have c2H := Lib.hid c2
      clear c2
      cases c3 : bAt s (e : Int) == 40
      · skip
        have hRe : R = 6 := by rw [hRH.out, c1, c2H.out, c3]; rfl
        subst hRe
        go_enter Tryd.func129, Tryd.ntmps129
        go_wp2_with fail
        refine (s_keywordOf _ _).mono ?_
        rintro y w1 ⟨rfl, hb1⟩
        rw [hKH.out]
        have T1 := Lib.hid ((two_made w W a).keep hb1 (by simp))
        have B1 := Lib.hid ((((Below.refl w.heap.size w).alloc (Nat.le_refl _) (.cells #[.int .i64 0, .string ⟨#[]⟩, .int .i64 0] 36)).alloc (by simp) (.cells #[.int .i64 6, .string W, .int .i64 a] 36)).trans (hb1.mono (by simp; omega)))
        clear hb1
        obtain ⟨n0, n1, n2, m0, m1, m2, fg, fh, hlt⟩ := T1.out
        go_wp2_with fail
        refine (s_isBuiltin _ _).mono ?_
        rintro y w2 ⟨rfl, hb2⟩
        rw [c2H.out]
        clear n0 n1 n2 m0 m1 m2 fg fh hlt
        have T2 := Lib.hid (T1.out.keep hb2 T1.out.lt)
        have B2 := Lib.hid (B1.out.trans (hb2.mono B1.out.size))
        clear hb2
        obtain ⟨n0, n1, n2, m0, m1, m2, fg, fh, hlt⟩ := T2.out
        go_wp2_with (go_at_call 81; refine (s_byte _ _ _ hs).mono ?_; rintro y w' ⟨rfl, rfl⟩)
        refine bodyPost_ret (v := .agg #[.int .i64 6, .string W, .int .i64 a]) (by simp [results, Tryd.results129, go_sem, n0, n1, n2]) rfl ⟨rfl, ?_⟩
        repeat (first | exact B2.out | refine Below.setCell ?_ (by simp; try omega) _)
      · skip
        have hRe : R = 7 := by rw [hRH.out, c1, c2H.out, c3]; rfl
        subst hRe
        go_enter Tryd.func129, Tryd.ntmps129
        go_wp2_with fail
        refine (s_keywordOf _ _).mono ?_
        rintro y w1 ⟨rfl, hb1⟩
        rw [hKH.out]
        have T1 := Lib.hid ((two_made w W a).keep hb1 (by simp))
        have B1 := Lib.hid ((((Below.refl w.heap.size w).alloc (Nat.le_refl _) (.cells #[.int .i64 0, .string ⟨#[]⟩, .int .i64 0] 36)).alloc (by simp) (.cells #[.int .i64 6, .string W, .int .i64 a] 36)).trans (hb1.mono (by simp; omega)))
        clear hb1
        obtain ⟨n0, n1, n2, m0, m1, m2, fg, fh, hlt⟩ := T1.out
        go_wp2_with fail
        refine (s_isBuiltin _ _).mono ?_
        rintro y w2 ⟨rfl, hb2⟩
        rw [c2H.out]
        clear n0 n1 n2 m0 m1 m2 fg fh hlt
        have T2 := Lib.hid (T1.out.keep hb2 T1.out.lt)
        have B2 := Lib.hid (B1.out.trans (hb2.mono B1.out.size))
        clear hb2
        obtain ⟨n0, n1, n2, m0, m1, m2, fg, fh, hlt⟩ := T2.out
        go_wp2_with (go_at_call 81; refine (s_byte _ _ _ hs).mono ?_; rintro y w' ⟨rfl, rfl⟩)
        refine bodyPost_ret (v := .agg #[.int .i64 7, .string W, .int .i64 a]) (by simp [results, Tryd.results129, go_sem, n0, n1, n2]) rfl ⟨rfl, ?_⟩
        repeat (first | exact B2.out | refine Below.setCell ?_ (by simp; try omega) _)
    · have c2H := Lib.hid c2
      clear c2
      have hRe : R = 8 := by rw [hRH.out, c1, c2H.out]; rfl
      subst hRe
      go_enter Tryd.func129, Tryd.ntmps129
      go_wp2_with fail
      refine (s_keywordOf _ _).mono ?_
      rintro y w1 ⟨rfl, hb1⟩
      rw [hKH.out]
      have T1 := Lib.hid ((two_made w W a).keep hb1 (by simp))
      have B1 := Lib.hid ((((Below.refl w.heap.size w).alloc (Nat.le_refl _) (.cells #[.int .i64 0, .string ⟨#[]⟩, .int .i64 0] 36)).alloc (by simp) (.cells #[.int .i64 6, .string W, .int .i64 a] 36)).trans (hb1.mono (by simp; omega)))
      clear hb1
      obtain ⟨n0, n1, n2, m0, m1, m2, fg, fh, hlt⟩ := T1.out
      go_wp2_with fail
      refine (s_isBuiltin _ _).mono ?_
      rintro y w2 ⟨rfl, hb2⟩
      rw [c2H.out]
      clear n0 n1 n2 m0 m1 m2 fg fh hlt
      have T2 := Lib.hid (T1.out.keep hb2 T1.out.lt)
      have B2 := Lib.hid (B1.out.trans (hb2.mono B1.out.size))
      clear hb2
      obtain ⟨n0, n1, n2, m0, m1, m2, fg, fh, hlt⟩ := T2.out
      go_wp2_with fail
      refine bodyPost_ret (v := .agg #[.int .i64 8, .string W, .int .i64 a]) (by simp [results, Tryd.results129, go_sem, n0, n1, n2]) rfl ⟨rfl, ?_⟩
      repeat (first | exact B2.out | refine Below.setCell ?_ (by simp; try omega) _)
  · have c1e : (K == 0) = false := by simpa using c1
    have hRe : R = K := by rw [hRH.out, c1]; rfl
    rw [hRe]
    go_enter Tryd.func129, Tryd.ntmps129
    go_wp2_with fail
    refine (s_keywordOf _ _).mono ?_
    rintro y w1 ⟨rfl, hb1⟩
    rw [hKH.out]
    have T1 := Lib.hid ((two_made w W a).keep hb1 (by simp))
    have B1 := Lib.hid ((((Below.refl w.heap.size w).alloc (Nat.le_refl _) (.cells #[.int .i64 0, .string ⟨#[]⟩, .int .i64 0] 36)).alloc (by simp) (.cells #[.int .i64 6, .string W, .int .i64 a] 36)).trans (hb1.mono (by simp; omega)))
    clear hb1
    obtain ⟨n0, n1, n2, m0, m1, m2, fg, fh, hlt⟩ := T1.out
    go_wp2_with fail
    refine (s_keywordOf _ _).mono ?_
    rintro y w2 ⟨rfl, hb2⟩
    rw [hKH.out]
    clear n0 n1 n2 m0 m1 m2 fg fh hlt
    have T2 := Lib.hid (T1.out.keep hb2 T1.out.lt)
    have B2 := Lib.hid (B1.out.trans (hb2.mono B1.out.size))
    clear hb2
    obtain ⟨n0, n1, n2, m0, m1, m2, fg, fh, hlt⟩ := T2.out
    go_wp2_with fail
    refine bodyPost_ret (v := .agg #[.int .i64 K, .string W, .int .i64 a]) (by simp [results, Tryd.results129, go_sem, n0, n1, n2]) rfl ⟨rfl, ?_⟩
    repeat (first | exact B2.out | refine Below.setCell ?_ (by simp; try omega) _)
end Go.Proofs.YtdajhcammnlonaaDoor
