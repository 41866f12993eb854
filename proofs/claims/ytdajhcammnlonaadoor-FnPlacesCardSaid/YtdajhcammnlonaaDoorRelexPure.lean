/- Tokens that may stand so, spelled with as few blanks as need be, are read as themselves. No program is in sight here. -/
import Derived.Test.YtdajhcammnlonaaDoorPlacesPure
namespace Go.Proofs.YtdajhcammnlonaaDoor
open Go.RowKit
set_option linter.unusedVariables false

theorem runEnd_stop_le (p : Int → Bool) (s : ByteArray) (e : Int) (hp : p (bAt s e) = false) : ∀ (m : Nat) (j : Int), (e - j).toNat ≤ m → j ≤ e → runEnd p s j ≤ e := by
  intro m
  induction m with
  | zero =>
    intro j hm hj
    have : j = e := by omega
    subst this
    rw [runEnd_stop hp]
    omega
  | succ m ih =>
    intro j hm hj
    by_cases he : j = e
    · subst he; rw [runEnd_stop hp]; omega
    · rw [runEnd]
      split
      · exact ih (j + 1) (by omega) (by omega)
      · exact hj
theorem digits_back {s : ByteArray} {k e : Nat} (he : e ≤ s.size) (hk : k ≤ e) (hn : isDigitB (bAt s e) = false) (i : Int) (h0 : 0 ≤ i) (hi : (k : Int) + i ≤ e) : digitsEnd s (k + i) = digitsEnd (s.extract k e) i + k ∧ digitsEnd s (k + i) ≤ e := by
  have h1 := digitsEnd_ext s k e he hk i h0 hi
  have h2 : digitsEnd s (k + i) ≤ e := runEnd_stop_le isDigitB s e hn _ _ (Nat.le_refl _) hi
  exact ⟨by omega, h2⟩
/-- a number by itself is one in the text, if what stands behind does not carry it on -/
theorem numEnd_back {s : ByteArray} {k e : Nat} (he : e ≤ s.size) (hk : k ≤ e) (h : numEnd (s.extract k e) 0 = ((e - k : Nat) : Int)) (hn : isDigitB (bAt s e) = false) (h46 : bAt s e ≠ 46) (h101 : bAt s e ≠ 101 ∧ bAt s e ≠ 69) : numEnd s k = e := by
  obtain ⟨t, ht⟩ : ∃ t, s.extract k e = t := ⟨_, rfl⟩
  have db : ∀ i : Int, 0 ≤ i → (k : Int) + i ≤ e → digitsEnd s (k + i) = digitsEnd t i + k ∧ digitsEnd s (k + i) ≤ e := fun i h0 hi => by
    rw [← ht]; exact digits_back he hk hn i h0 hi
  have bb : ∀ i : Int, 0 ≤ i → bAt t i = if (k : Int) + i < e then bAt s (k + i) else -1 := fun i h0 => by
    rw [← ht]; exact bAt_ext s k e he i h0
  rw [ht] at h
  unfold numEnd at h ⊢
  rw [if_neg (by omega)] at h
  rw [if_neg (by omega)]
  by_cases hm : numMant t 0 = -1
  · rw [if_pos hm] at h; omega
  · rw [if_neg hm] at h
    have hgm := numMant_ge hm
    -- the point
    have d0 := db 0 (by omega) (by omega)
    simp only [Int.add_zero] at d0
    have g0 := digitsEnd_ge t 0
    have b0 := bb (digitsEnd t 0) (by omega)
    have e0 : (k : Int) + digitsEnd t 0 = digitsEnd s k := by omega
    rw [e0] at b0
    have hM : numMant s k = numMant t 0 + k := by
      unfold numMant at hm ⊢
      by_cases c : bAt s (digitsEnd s k) = 46
      · have hlt : digitsEnd s k < e := by
          by_cases x : digitsEnd s k = e
          · rw [x] at c; exact absurd c h46
          · omega
        rw [if_pos hlt] at b0
        have d1 := db (digitsEnd t 0 + 1) (by omega) (by omega)
        have e1 : (k : Int) + (digitsEnd t 0 + 1) = digitsEnd s k + 1 := by omega
        rw [e1] at d1
        have ct : bAt t (digitsEnd t 0) = 46 := by rw [b0]; exact c
        rw [if_pos ct] at hm
        rw [if_pos c, if_pos ct]
        by_cases c2 : digitsEnd t 0 = 0 ∧ digitsEnd t (digitsEnd t 0 + 1) = digitsEnd t 0 + 1
        · rw [if_pos c2] at hm; exact absurd rfl hm
        · rw [if_neg c2, if_neg (by omega)]
          omega
      · have c' : bAt t (digitsEnd t 0) ≠ 46 := by
          rw [b0]
          split
          · exact c
          · omega
        rw [if_neg c'] at hm
        rw [if_neg c, if_neg c']
        by_cases c2 : digitsEnd t 0 = 0
        · rw [if_pos c2] at hm; exact absurd rfl hm
        · rw [if_neg c2, if_neg (by omega)]
          omega
    obtain ⟨M, hMd⟩ : ∃ M, numMant t 0 = M := ⟨_, rfl⟩
    rw [hMd] at h hM hgm
    rw [if_neg (by omega), hM]
    have hMe : M ≤ (e - k : Nat) := by have := numExp_ge t M; omega
    have bM := bb M (by omega)
    rw [show (k : Int) + M = M + k by omega] at bM
    by_cases hMl : M + k < e
    · rw [if_pos hMl] at bM
      -- an exponent
      have hx : (bAt t M = 101 ∨ bAt t M = 69) ∧ digitsEnd t (expFirst t M) > expFirst t M ∧ digitsEnd t (expFirst t M) = ((e - k : Nat) : Int) := by
        unfold numExp at h
        by_cases c : (bAt t M = 101 ∨ bAt t M = 69) ∧ digitsEnd t (expFirst t M) > expFirst t M
        · rw [if_pos c] at h; exact ⟨c.1, c.2, h⟩
        · rw [if_neg c] at h; omega
      have hf := expFirst_ge t M
      have hfl : expFirst t M < ((e - k : Nat) : Int) := by omega
      have b1 := bb (M + 1) (by omega)
      rw [if_pos (by omega), show (k : Int) + (M + 1) = M + k + 1 by omega] at b1
      have ef : expFirst s (M + k) = expFirst t M + k := by
        unfold expFirst
        rw [b1]
        split <;> omega
      have dF := db (expFirst t M) (by omega) (by omega)
      rw [show (k : Int) + expFirst t M = expFirst t M + k by omega] at dF
      unfold numExp
      rw [ef, dF.1, ← bM, if_pos ⟨hx.1, by omega⟩]
      omega
    · have hMe2 : M + k = e := by omega
      unfold numExp
      rw [hMe2, if_neg (by omega)]
theorem quotedGo_back (s : ByteArray) (q : Int) (k e : Nat) (he : e ≤ s.size) (i : Nat) (n : Int) (hn : 0 ≤ n) (h : quotedGo (s.extract k e) q i = n) : quotedGo s q (k + i) = n + k := by
  have hb := quotedGo_bounds (s.extract k e) q i
  rw [h, size_ext s k e he] at hb
  have hlt : k + i < e := by omega
  have eb : ∀ j : Nat, bAt (s.extract k e) ((i + j : Nat) : Int) = if k + i + j < e then bAt s ((k + i + j : Nat) : Int) else -1 := by
    intro j
    rw [bAt_ext s k e he _ (by omega), show (k : Int) + ((i + j : Nat) : Int) = ((k + i + j : Nat) : Int) from by omega]
    by_cases hj : k + i + j < e
    · rw [if_pos (by omega), if_pos hj]
    · rw [if_neg (by omega), if_neg hj]
  have eb0 := eb 0
  have eb1 := eb 1
  simp only [Nat.add_zero] at eb0
  rw [if_pos hlt] at eb0
  rw [quotedGo] at h ⊢
  rw [size_ext s k e he, if_pos (by omega), eb0] at h
  rw [if_pos (by omega)]
  by_cases c1 : bAt s ((k + i : Nat) : Int) = q
  · rw [if_pos c1] at h ⊢; omega
  · rw [if_neg c1] at h ⊢
    by_cases c2 : bAt s ((k + i : Nat) : Int) = 10
    · rw [if_pos c2] at h; omega
    · rw [if_neg c2] at h ⊢
      by_cases c3 : bAt s ((k + i : Nat) : Int) = 92
      · rw [if_pos c3] at h ⊢
        rw [show (i : Int) + 1 = ((i + 1 : Nat) : Int) from by omega, eb1] at h
        by_cases c5 : k + i + 1 < e
        · rw [if_pos c5] at h
          rw [show ((k + i : Nat) : Int) + 1 = ((k + i + 1 : Nat) : Int) from by omega]
          by_cases c4 : bAt s ((k + i + 1 : Nat) : Int) = 10
          · rw [if_pos c4] at h; omega
          · rw [if_neg c4] at h ⊢
            exact quotedGo_back s q k e he (i + 2) n hn h
        · rw [if_neg c5, if_neg (by omega)] at h
          have hb2 := quotedGo_bounds (s.extract k e) q (i + 2)
          rw [h, size_ext s k e he] at hb2
          omega
      · rw [if_neg c3] at h ⊢
        exact quotedGo_back s q k e he (i + 1) n hn h
termination_by s.size - (k + i)
decreasing_by all_goals omega
theorem quoted_back {s : ByteArray} {k e : Nat} {q : Int} (he : e ≤ s.size) (hk : k < e) (hq : q ≠ -1) (h : quoted (s.extract k e) 0 q = ((e - k : Nat) : Int)) : quoted s k q = e ∧ bAt s k = q := by
  unfold quoted at h
  have hc : bAt (s.extract k e) 0 = q := by
    by_cases hc : bAt (s.extract k e) 0 = q
    · exact hc
    · rw [if_neg hc] at h; omega
  rw [if_pos hc] at h
  rw [bAt_ext s k e he 0 (by omega), if_pos (by omega)] at hc
  simp only [Int.add_zero] at hc
  have := quotedGo_back s q k e he 1 _ (by omega) h
  refine ⟨?_, hc⟩
  unfold quoted
  rw [if_pos hc]
  have e1 : ((k : Int) + 1).toNat = k + 1 := by omega
  rw [e1, this]
  omega
theorem wordsFrom_all (s : ByteArray) (i : Nat) : wordsFrom s i = (s.data.toList.drop i).all fun b => isWordB (b.toNat : Int) := by
  rw [wordsFrom]
  by_cases h : i < s.size
  · rw [if_pos h, wordsFrom_all s (i + 1), bAt_nat h]
    have hl : i < s.data.toList.length := by simpa using h
    rw [List.drop_eq_getElem_cons hl, List.all_cons]
    rfl
  · rw [if_neg h, List.drop_eq_nil_of_le (by show s.data.toList.length ≤ i; simp; omega)]
    rfl
termination_by s.size - i
decreasing_by omega
/-- the shape of a name, by its bytes -/
def nameShapeL (l : List UInt8) : Bool := l.all (fun b => isWordB (b.toNat : Int)) && decide (l.length ≤ 12) && (match l with | [] => false | c :: _ => isLetterB (c.toNat : Int))
theorem bAt_bs0 (s : ByteArray) : bAt s 0 = match s.data.toList with | [] => -1 | c :: _ => (c.toNat : Int) := by
  by_cases h : 0 < s.size
  · obtain ⟨r, hr⟩ := drop_head s 0 h
    rw [List.drop_zero] at hr
    rw [hr, bAt_in (by omega) (by omega)]
    rfl
  · rw [bAt_out (by omega)]
    have : s.data.toList = [] := List.eq_nil_of_length_eq_zero (by rw [Array.length_toList]; show s.size = 0; omega)
    rw [this]
theorem nameShape_eq (s : ByteArray) : nameShape s = nameShapeL s.data.toList := by
  unfold nameShape nameShapeL
  rw [wordsFrom_all, List.drop_zero, bAt_bs0]
  have hs : s.size = s.data.toList.length := by simp
  cases h : s.data.toList with
  | nil =>
    rw [h] at hs
    rw [hs]
    simp [inB, isLetterB]
  | cons c r =>
    rw [h] at hs
    rw [hs]
    have : inB ((c :: r).length : Int) 1 12 = decide ((c :: r).length ≤ 12) := by
      unfold inB
      rw [decide_eq_true (by simp; omega), Bool.true_and]
      exact decide_eq_decide.2 (by omega)
    rw [this]
theorem kw_shape : ∀ w ∈ kwL, nameShapeL w = true := by decide
theorem bi_shape : ∀ w ∈ biL, nameShapeL w = true := by decide
theorem kw_find : ∀ j : Nat, j < 17 → findFrom (kwL.getD j []) kwL 0 = (j : Int) := by decide
theorem bi_nokw : ∀ w ∈ biL, findFrom w kwL 0 = -1 := by decide
theorem isBuiltin_mem {s : ByteArray} (h : isBuiltinB s = true) : s.data.toList ∈ biL := by
  unfold isBuiltinB findIx at h
  obtain ⟨j, _, h2⟩ := findFrom_get biL 0 (by simpa using h)
  exact List.mem_of_getElem? h2
theorem shape_head {l : List UInt8} (h : nameShapeL l = true) : ∃ c r, l = c :: r ∧ isLetterB (c.toNat : Int) = true := by
  unfold nameShapeL at h
  cases l with
  | nil => simp at h
  | cons c r =>
    simp only [Bool.and_eq_true] at h
    exact ⟨c, r, rfl, h.2⟩
/-- what a valid token of a word's kind is -/
theorem word_tok {t : PTok} (h : tokenOkB t = true) (hk : t.kind = 6 ∨ t.kind = 7 ∨ t.kind = 8 ∨ (10 ≤ t.kind ∧ t.kind ≤ 26)) : nameShape t.text = true ∧
    (t.kind = 6 ∨ t.kind = 7 → keywordOf t.text = 0 ∧ isBuiltinB t.text = false) ∧ (t.kind = 8 → keywordOf t.text = 0 ∧ isBuiltinB t.text = true) ∧ (10 ≤ t.kind → keywordOf t.text = t.kind) := by
  have hs : t.text.size ≠ 0 := by
    intro e
    unfold tokenOkB at h
    rw [if_pos e] at h
    cases h
  by_cases c1 : t.kind = 6 ∨ t.kind = 7
  · have hn : nameOkB t.text = true := by
      unfold tokenOkB at h
      rw [if_neg hs] at h
      rcases c1 with c1 | c1 <;> (rw [c1] at h; simpa using h)
    unfold nameOkB at hn
    simp only [Bool.and_eq_true, beq_iff_eq, Bool.not_eq_true'] at hn
    exact ⟨hn.1.1, fun _ => ⟨hn.1.2, hn.2⟩, fun h => by omega, fun h => by omega⟩
  · by_cases c2 : t.kind = 8
    · have hb : isBuiltinB t.text = true := by
        unfold tokenOkB at h
        rw [if_neg hs, c2] at h
        simpa using h
      have hm := isBuiltin_mem hb
      refine ⟨by rw [nameShape_eq]; exact bi_shape _ hm, fun h => by omega, fun _ => ⟨?_, hb⟩, fun h => by omega⟩
      unfold keywordOf findIx
      rw [bi_nokw _ hm]
      rfl
    · have hk2 : 10 ≤ t.kind ∧ t.kind ≤ 26 := by omega
      rw [kind_word t (by omega) hs] at h
      have hx : t.text.data.toList = kwL.getD (t.kind - 10).toNat [] := by
        have h1 : spellOf t.kind = bs (kwL.getD (t.kind - 10).toNat []) := by
          unfold spellOf
          rw [if_neg (by simp; omega), if_pos (inB_true.2 (by omega))]
        rw [h1, bs_data] at h
        exact eq_of_beq h
      have hj : (t.kind - 10).toNat < 17 := by omega
      refine ⟨?_, fun h => by omega, fun h => by omega, fun _ => ?_⟩
      · rw [nameShape_eq, hx]
        refine kw_shape _ ?_
        rw [List.getD_eq_getElem?_getD, List.getElem?_eq_getElem hj]
        exact List.getElem_mem _
      · unfold keywordOf findIx
        rw [hx, kw_find _ hj, if_neg (by omega)]
        omega
theorem shape_runEnd {s : ByteArray} {a : Nat} {x rest : List UInt8} (hd : s.data.toList.drop a = x ++ rest) (hx : x.all (fun b => isWordB (b.toNat : Int)) = true) (hn : isWordB (bAt s ((a + x.length : Nat) : Int)) = false) : runEnd isWordB s a = ((a + x.length : Nat) : Int) := by
  induction x generalizing a with
  | nil => simp only [List.length_nil, Nat.add_zero] at hn ⊢; exact runEnd_stop hn
  | cons c x ih =>
    simp only [List.all_cons, Bool.and_eq_true] at hx
    have hl : a < s.data.toList.length := by
      by_cases h : a < s.data.toList.length
      · exact h
      · rw [List.drop_eq_nil_of_le (by omega)] at hd; cases hd
    have hl' : a < s.size := by simpa using hl
    obtain ⟨r, hr⟩ := drop_head s a hl'
    have hc : s[a] = c := by rw [hr] at hd; exact (List.cons.inj hd).1
    have hd2 : s.data.toList.drop (a + 1) = x ++ rest := by
      rw [List.drop_eq_getElem_cons hl] at hd
      exact (List.cons.inj hd).2
    have hb : bAt s a = (c.toNat : Int) := by rw [bAt_nat hl', hc]
    rw [runEnd_step isWordB_m1 (by rw [hb]; exact hx.1)]
    have := ih hd2 hx.2 (by rw [← hn]; congr 2; simp; omega)
    rw [show ((a : Int) + 1) = ((a + 1 : Nat) : Int) from by omega, this]
    simp
    omega
theorem drop_size {s : ByteArray} {a : Nat} {x rest : List UInt8} (hd : s.data.toList.drop a = x ++ rest) (h0 : x ≠ []) : a + x.length ≤ s.size := by
  have h1 := congrArg List.length hd
  have hsz : s.data.toList.length = s.size := by simp
  have h2 : 0 < x.length := List.length_pos_iff.2 h0
  rw [List.length_drop, List.length_append] at h1
  omega
theorem drop_bytes {s : ByteArray} {a : Nat} {x rest : List UInt8} (hd : s.data.toList.drop a = x ++ rest) (h0 : x ≠ []) : s.extract a (a + x.length) = bs x := by
  apply ba_ext
  rw [extract_bytes s a _ (drop_size hd h0), bs_data, hd]
  rw [show a + x.length - a = x.length by omega]
  simp
theorem drop_more {s : ByteArray} {a : Nat} {x rest : List UInt8} (hd : s.data.toList.drop a = x ++ rest) : s.data.toList.drop (a + x.length) = rest := by
  rw [← List.drop_drop, hd]
  simp
def headB : List UInt8 → Int
  | [] => -1
  | c :: _ => (c.toNat : Int)
theorem bAt_drop {s : ByteArray} {a : Nat} {rest : List UInt8} (hd : s.data.toList.drop a = rest) : bAt s a = headB rest := by
  have hsz : s.data.toList.length = s.size := by simp
  by_cases h : a < s.size
  · obtain ⟨r, hr⟩ := drop_head s a h
    rw [hd] at hr
    rw [hr, bAt_nat h]
    rfl
  · rw [List.drop_eq_nil_of_le (by omega)] at hd
    subst hd
    exact bAt_out (by omega)
/-! signs -/
theorem opGo_two (x y : UInt8) (r : List UInt8) : ∀ (l : List (List UInt8)) (i : Nat) (a : Int × Nat), (∀ g ∈ l, g.length ≤ 2) → opGo (x :: y :: r) l i a = opGo [x, y] l i a
  | [], _, _, _ => rfl
  | g :: q, i, a, h => by
    rw [opGo, opGo]
    have hg : g <+: x :: y :: r ↔ g <+: [x, y] := by
      have hl := h g (by simp)
      match g, hl with
      | [], _ => simp
      | [u], _ => simp [List.cons_prefix_cons]
      | [u, v], _ => simp [List.cons_prefix_cons]
    have e : (g.length > a.2 ∧ g <+: x :: y :: r) ↔ (g.length > a.2 ∧ g <+: [x, y]) := by rw [hg]
    by_cases c : g.length > a.2 ∧ g <+: [x, y]
    · rw [if_pos (e.2 c), if_pos c, opGo_two x y r q (i + 1) _ (fun z hz => h z (by simp [hz]))]
    · rw [if_neg (fun k => c (e.1 k)), if_neg c, opGo_two x y r q (i + 1) _ (fun z hz => h z (by simp [hz]))]
theorem signL_short : ∀ g ∈ signL, g.length ≤ 2 := by decide
theorem op_two (d : List UInt8) : opGo d signL 0 (0, 0) = opGo (d.take 2) signL 0 (0, 0) := by
  match d with
  | [] => rfl
  | [_] => rfl
  | x :: y :: r => exact opGo_two x y r signL 0 (0, 0) signL_short
theorem opGo_max (t : List UInt8) : ∀ (l : List (List UInt8)) (i : Nat) (a : Int × Nat), a.2 ≤ (opGo t l i a).2 ∧ ∀ g ∈ l, g <+: t → g.length ≤ (opGo t l i a).2
  | [], _, _ => ⟨Nat.le_refl _, fun g hg => by cases hg⟩
  | x :: q, i, a => by
    rw [opGo]
    by_cases c : x.length > a.2 ∧ x <+: t
    · rw [if_pos c]
      obtain ⟨h1, h2⟩ := opGo_max t q (i + 1) (((30 + i : Nat) : Int), x.length)
      simp only at h1
      refine ⟨by omega, fun g hg hp => ?_⟩
      rcases List.mem_cons.1 hg with rfl | hg
      · exact h1
      · exact h2 g hg hp
    · rw [if_neg c]
      obtain ⟨h1, h2⟩ := opGo_max t q (i + 1) a
      refine ⟨h1, fun g hg hp => ?_⟩
      rcases List.mem_cons.1 hg with rfl | hg
      · have : ¬ g.length > a.2 := fun h => c ⟨h, hp⟩
        omega
      · exact h2 g hg hp
theorem signL_nodup : signL.Nodup := by decide
theorem op_at_sign {j : Nat} {g : List UInt8} (hg : signL[j]? = some g) (rest : List UInt8) (h : g.length = 1 → (opGo (g ++ rest) signL 0 (0, 0)).2 ≤ 1) : opGo (g ++ rest) signL 0 (0, 0) = (((30 + j : Nat) : Int), g.length) := by
  have hj : j < signL.length := (List.getElem?_eq_some_iff.1 hg).1
  obtain ⟨hne, hl, _⟩ := sign_head j g hg
  have hp : 0 < g.length := List.length_pos_iff.2 hne
  have hm := (opGo_max (g ++ rest) signL 0 (0, 0)).2 g (List.mem_of_getElem? hg) (List.prefix_append _ _)
  rcases opGo_inv (g ++ rest) signL 0 (0, 0) with h1 | ⟨i, g', h1, h2, h3⟩
  · rw [h1] at hm
    have hm' : g.length ≤ 0 := hm
    omega
  · have hl' := (sign_head i g' h1).2.1
    rw [h3] at hm h
    simp only at hm h
    have hlen : g'.length = g.length := by omega
    have e : g' = g := by
      have e1 := prefix_take h2
      rw [hlen] at e1
      rw [← e1]
      simp
    subst e
    have := (List.getElem?_inj hj signL_nodup).1 (hg.trans h1.symm)
    subst this
    rw [h3]
    simp
/-! what stands behind a token -/
theorem sub_toNat (a : Nat) (h : 0 < a) : ((a : Int) - 1).toNat = a - 1 := by omega
/-- the last byte of a text -/
theorem bAt_last {x : List UInt8} (h0 : x ≠ []) : bAt (bs x) ((x.length : Int) - 1) = ((x.getLast h0).toNat : Int) := by
  have hp : 0 < x.length := List.length_pos_iff.2 h0
  have hz := bs_size x
  rw [bAt_in (by omega) (by omega)]
  have e : ((x.length : Int) - 1).toNat = x.length - 1 := by omega
  have e2 : (bs x)[((x.length : Int) - 1).toNat]'(by omega) = x[x.length - 1]'(by omega) := by
    simp only [e]
    rfl
  rw [e2, List.getLast_eq_getElem]
theorem bAt_first (x : List UInt8) : bAt (bs x) 0 = headB x := by
  have := bAt_drop (s := bs x) (a := 0) (rest := x) (by rw [bs_data]; rfl)
  exact this
theorem bs_text (t : PTok) : bs t.text.data.toList = t.text := bs_toList _
theorem tok_size {t : PTok} (h : tokenOkB t = true) : t.text.size ≠ 0 ∧ t.text.data.toList ≠ [] := by
  have hs : t.text.size ≠ 0 := by
    intro e
    unfold tokenOkB at h
    rw [if_pos e] at h
    cases h
  refine ⟨hs, fun e => hs ?_⟩
  have : t.text.data.toList.length = t.text.size := by simp
  rw [e] at this
  simpa using this.symm
theorem tok_len (t : PTok) : t.text.data.toList.length = t.text.size := by simp
/-- the kind of a valid token -/
theorem tok_kind {t : PTok} (h : tokenOkB t = true) : t.kind = 1 ∨ t.kind = 2 ∨ t.kind = 3 ∨ t.kind = 4 ∨ t.kind = 5 ∨ (t.kind = 6 ∨ t.kind = 7 ∨ t.kind = 8 ∨ (10 ≤ t.kind ∧ t.kind ≤ 26)) ∨ (30 ≤ t.kind ∧ t.kind ≤ 68) := by
  have hs := (tok_size h).1
  have hs2 := (tok_size h).2
  by_cases c : t.kind = 2 ∨ t.kind = 3 ∨ t.kind = 4 ∨ t.kind = 5 ∨ t.kind = 6 ∨ t.kind = 7 ∨ t.kind = 8
  · omega
  · unfold tokenOkB at h
    rw [if_neg hs, if_neg (by simp; omega), if_neg (by simp; omega), if_neg (by simp; omega), if_neg (by simp; omega), if_neg (by simp; omega), if_neg (by simp; omega)] at h
    have hx := eq_of_beq h
    unfold spellOf at hx
    by_cases c1 : t.kind = 1
    · exact .inl c1
    · rw [if_neg (by simpa using c1)] at hx
      by_cases c2 : inB t.kind 10 26 = true
      · have := inB_true.1 c2; omega
      · rw [if_neg c2] at hx
        by_cases c3 : inB t.kind 30 68 = true
        · have := inB_true.1 c3; omega
        · rw [if_neg c3, bs_data] at hx
          exact absurd hx hs2
theorem sign_tok {t : PTok} (h : tokenOkB t = true) (hk : 30 ≤ t.kind ∧ t.kind ≤ 68) : ∃ j : Nat, t.kind = 30 + (j : Int) ∧ signL[j]? = some t.text.data.toList := by
  have hs := tok_size h
  rw [kind_word t (by omega) hs.1] at h
  have hx := eq_of_beq h
  refine ⟨(t.kind - 30).toNat, by omega, ?_⟩
  have hj : (t.kind - 30).toNat < signL.length := by rw [signL_len]; omega
  rw [List.getElem?_eq_getElem hj]
  have h1 : spellOf t.kind = bs (signL.getD (t.kind - 30).toNat []) := by
    unfold spellOf
    rw [if_neg (by simp; omega), if_neg (by rw [Bool.not_eq_true, inB_false]; omega), if_pos (inB_true.2 (by omega))]
  rw [h1, bs_data, List.getD_eq_getElem?_getD, List.getElem?_eq_getElem hj] at hx
  rw [hx]
  rfl
theorem line_tok {t : PTok} (h : tokenOkB t = true) (hk : t.kind = 1) : t.text.data.toList = [10] := by
  unfold tokenOkB at h
  rw [if_neg (tok_size h).1, hk] at h
  have h2 : (t.text.data.toList == (spellOf 1).data.toList) = true := by simpa using h
  exact eq_of_beq h2
/-- the first byte of a valid token -/
theorem tok_first {t : PTok} (h : tokenOkB t = true) : (t.kind = 2 → headB t.text.data.toList = 35) ∧ (t.kind = 3 → isDigitB (headB t.text.data.toList) = true ∨ headB t.text.data.toList = 46) ∧ (t.kind = 4 → headB t.text.data.toList = 34) ∧ (t.kind = 5 → headB t.text.data.toList = 47) := by
  have hs := (tok_size h).1
  have hb : headB t.text.data.toList = bAt t.text 0 := by
    rw [← bAt_first, bs_text]
  rw [hb]
  refine ⟨fun hk => ?_, fun hk => ?_, fun hk => ?_, fun hk => ?_⟩
  · unfold tokenOkB at h
    rw [if_neg hs, hk] at h
    have h2 : (bAt t.text 0 == 35 && plainB t.text) = true := by simpa using h
    simp only [Bool.and_eq_true, beq_iff_eq] at h2
    exact h2.1
  · unfold tokenOkB at h
    rw [if_neg hs, hk] at h
    have h2 : numEnd t.text 0 = t.text.size := by simpa using h
    unfold numEnd at h2
    rw [if_neg (by omega)] at h2
    by_cases c : isDigitB (bAt t.text 0) = true
    · exact .inl c
    · right
      have e : digitsEnd t.text 0 = 0 := runEnd_stop (by simpa using c)
      by_cases hm : numMant t.text 0 = -1
      · rw [if_pos hm] at h2; omega
      · unfold numMant at hm
        rw [e] at hm
        by_cases c2 : bAt t.text 0 = 46
        · exact c2
        · rw [if_neg c2, if_pos rfl] at hm; exact absurd rfl hm
  · unfold tokenOkB at h
    rw [if_neg hs, hk] at h
    have h2 : strEnd t.text 0 = t.text.size := by simpa using h
    unfold strEnd quoted at h2
    by_cases c : bAt t.text 0 = 34
    · exact c
    · rw [if_neg c] at h2; omega
  · unfold tokenOkB at h
    rw [if_neg hs, hk] at h
    have h2 : ereEnd t.text 0 = t.text.size := by simpa using h
    unfold ereEnd quoted at h2
    by_cases c : bAt t.text 0 = 47
    · exact c
    · rw [if_neg c] at h2; simp at h2
theorem letter_facts {x : Int} (h : isLetterB x = true) : isWordB x = true ∧ isDigitB x = false ∧ x ≠ 10 ∧ x ≠ 35 ∧ x ≠ 46 ∧ x ≠ 34 ∧ x ≠ 47 ∧ x ≠ 40 ∧ x ≠ 32 ∧ x ≠ 9 ∧ x ≠ 92 := by
  unfold isWordB
  rw [h]
  unfold isLetterB at h
  simp only [Bool.or_eq_true, inB_true, beq_iff_eq] at h
  refine ⟨rfl, by unfold isDigitB; rw [inB_false]; omega, ?_⟩
  omega
theorem word_first {t : PTok} (h : nameShape t.text = true) : isLetterB (headB t.text.data.toList) = true := by
  rw [nameShape_eq] at h
  obtain ⟨c, r, e, hl⟩ := shape_head h
  rw [e]
  exact hl
theorem sign_first : ∀ g ∈ signL, headB g ≠ 10 ∧ headB g ≠ 35 ∧ isDigitB (headB g) = false ∧ headB g ≠ 46 ∧ headB g ≠ 34 ∧ isLetterB (headB g) = false ∧ headB g ≠ 32 ∧ headB g ≠ 9 ∧ headB g ≠ 92 := by decide
/-- a token that begins with an opening parenthesis is one -/
theorem paren_kind {t : PTok} (h : tokenOkB t = true) (hb : headB t.text.data.toList = 40) : t.kind = 32 := by
  have hf := tok_first h
  rcases tok_kind h with k | k | k | k | k | k | k
  · rw [line_tok h k] at hb; simp [headB] at hb
  · have := hf.1 k; omega
  · rcases hf.2.1 k with h1 | h1
    · rw [hb] at h1; exact absurd h1 (by decide)
    · omega
  · have := hf.2.2.1 k; omega
  · have := hf.2.2.2 k; omega
  · have := (letter_facts (word_first (word_tok h k).1)).2.2.2.2.2.2.2.1; omega
  · obtain ⟨j, h1, h2⟩ := sign_tok h k
    have h3 := (sign_head j _ h2).2.2
    cases hx : t.text.data.toList with
    | nil => exact absurd hx (tok_size h).2
    | cons c r =>
      rw [hx] at hb h3
      have : j = 2 := ((h3 c rfl).1).1 (by simp only [headB] at hb; omega)
      omega
/-- the first byte of what stands behind a token -/
theorem behind {t : PTok} {r : List PTok} (ht : tokenOkB t = true) (hr : tokensGo t.kind r = true) :
    (r = [] ∧ headB (spellGo (some t) r) = -1) ∨ (∃ u q, r = u :: q ∧ tokenOkB u = true ∧ ((gapB t u = true ∧ headB (spellGo (some t) r) = 32) ∨ (gapB t u = false ∧ headB (spellGo (some t) r) = headB u.text.data.toList))) := by
  cases r with
  | nil => exact .inl ⟨rfl, rfl⟩
  | cons u q =>
    rw [tokensGo_cons] at hr
    simp only [Bool.and_eq_true] at hr
    have hu : tokenOkB u = true := by
      have := hr.1
      unfold stands at this
      simp only [Bool.and_eq_true] at this
      exact this.1.1.1.1
    refine .inr ⟨u, q, rfl, hu, ?_⟩
    have hne := (tok_size hu).2
    cases hg : gapB t u
    · right
      refine ⟨rfl, ?_⟩
      simp only [spellGo, hg]
      cases hx : u.text.data.toList with
      | nil => exact absurd hx hne
      | cons c x => simp [headB]
    · left
      refine ⟨rfl, ?_⟩
      simp only [spellGo, hg]
      rfl
/-- what no gap says -/
theorem gap_no {t u : PTok} (ht : t.text.size ≠ 0) (hu : u.text.size ≠ 0) (h1 : t.kind ≠ 1) (h2 : t.kind ≠ 2) (h3 : u.kind ≠ 1) (hg : gapB t u = false) :
    (isWordB (bAt t.text (t.text.size - 1)) = true → isWordB (bAt u.text 0) = false) ∧ (t.kind = 3 → isWordB (bAt u.text 0) = false ∧ bAt u.text 0 ≠ 46) ∧ (t.kind = 6 → u.kind ≠ 32) ∧ (30 ≤ t.kind ∧ t.kind ≤ 68 → (opAt (t.text ++ u.text) 0).2 ≤ t.text.size) := by
  unfold gapB at hg
  rw [if_neg (by omega)] at hg
  by_cases c1 : (isWordB (bAt t.text (t.text.size - 1)) && isWordB (bAt u.text 0)) = true
  · rw [if_pos c1] at hg; cases hg
  · rw [if_neg c1] at hg
    by_cases c2 : (t.kind == 3 && (isWordB (bAt u.text 0) || bAt u.text 0 == 46)) = true
    · rw [if_pos c2] at hg; cases hg
    · rw [if_neg c2] at hg
      by_cases c3 : (t.kind == 6 && u.kind == 32) = true
      · rw [if_pos c3] at hg; cases hg
      · rw [if_neg c3] at hg
        refine ⟨fun h => ?_, fun h => ?_, fun h e => ?_, fun h => ?_⟩
        · rw [h] at c1; simpa using c1
        · rw [h] at c2
          simp at c2
          exact c2
        · rw [h, e] at c3; exact c3 rfl
        · rw [inB_true.2 h] at hg
          simpa using hg
theorem last_word {t : PTok} (h : nameShape t.text = true) (hs : t.text.size ≠ 0) : isWordB (bAt t.text (t.text.size - 1)) = true := by
  rw [nameShape_eq] at h
  unfold nameShapeL at h
  simp only [Bool.and_eq_true] at h
  have hne : t.text.data.toList ≠ [] := by
    intro e
    have := tok_len t
    rw [e] at this
    exact hs this.symm
  have h1 := bAt_last hne
  rw [bs_text, tok_len] at h1
  rw [h1]
  exact List.all_eq_true.1 h.1.1 _ (List.getLast_mem hne)
end Go.Proofs.YtdajhcammnlonaaDoor
