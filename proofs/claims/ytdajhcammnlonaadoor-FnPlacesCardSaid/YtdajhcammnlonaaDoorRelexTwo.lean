/- Tokens that may stand so, spelled with as few blanks as need be, are read as themselves: the token at a place, and all of them. No program is in sight here. -/
import Derived.Test.YtdajhcammnlonaaDoorRelexPure
namespace Go.Proofs.YtdajhcammnlonaaDoor
open Go.RowKit
set_option linter.unusedVariables false

theorem stands_parts {before next : Int} {t : PTok} (h : stands before next t = true) : tokenOkB t = true ∧ (t.kind = 7 → next = 32) ∧ (t.kind = 2 → next = 1 ∨ next = 0) ∧ (t.kind = 5 → endsB before = false) ∧ (t.kind = 58 ∨ t.kind = 41 → endsB before = true) := by
  unfold stands at h
  simp only [Bool.and_eq_true, Bool.not_eq_true', Bool.and_eq_false_iff, bne_eq_false_iff_eq, beq_eq_false_iff_ne, Bool.or_eq_false_iff] at h
  obtain ⟨⟨⟨⟨h0, h1⟩, h2⟩, h3⟩, h4⟩ := h
  refine ⟨h0, fun e => ?_, fun e => ?_, fun e => ?_, fun e => ?_⟩
  · rcases h1 with h | h
    · exact absurd e h
    · exact h
  · rcases h2 with (h | h) | h
    · exact absurd e h
    · exact .inl h
    · exact .inr h
  · rcases h3 with h | h
    · exact absurd e h
    · exact h
  · rcases h4 with h | h
    · omega
    · simpa using h
theorem run_exact {p : Int → Bool} {s : ByteArray} {x rest : List UInt8} {a : Nat} (hd : s.data.toList.drop a = x ++ rest) (hx : ∀ b ∈ x, p (b.toNat : Int) = true) (hn : rest = [] ∨ p (headB rest) = false) : runEnd p s a = ((a + x.length : Nat) : Int) := by
  have hsz : s.data.toList.length = s.size := by simp
  induction x generalizing a with
  | nil =>
    simp only [List.length_nil, Nat.add_zero]
    rw [List.nil_append] at hd
    rcases hn with rfl | hn
    · have := List.drop_eq_nil_iff.1 hd
      exact runEnd_far p s a (by omega)
    · exact runEnd_stop (by rw [bAt_drop hd]; exact hn)
  | cons b x ih =>
    have hb := bAt_drop hd
    have hsm : a < s.size := by
      have h1 := congrArg List.length hd
      simp at h1
      omega
    have h1 : s.data.toList.drop (a + 1) = x ++ rest := drop_more (x := [b]) (by simpa using hd)
    have h2 := ih h1 (fun c hc => hx c (by simp [hc]))
    rw [runEnd, dif_pos ⟨by omega, by rw [hb]; exact hx b (by simp)⟩]
    have e : ((a : Int) + 1) = ((a + 1 : Nat) : Int) := by omega
    rw [e, h2, List.length_cons]
    omega
theorem finTok_nat (s : ByteArray) (k : Int) (a e : Nat) : finTok s k a (e : Int) = ⟨k, s.extract a e, a⟩ := by
  unfold finTok
  rw [if_neg (by omega), Int.toNat_natCast]
/-- the first byte behind a token that is neither a line end nor a comment -/
theorem behind_two {t : PTok} {r : List PTok} (ht : tokenOkB t = true) (hr : tokensGo t.kind r = true) :
    (headB (spellGo (some t) r) = -1 ∧ spellGo (some t) r = []) ∨ headB (spellGo (some t) r) = 32 ∨ headB (spellGo (some t) r) = 10 ∨ (∃ u q, r = u :: q ∧ tokenOkB u = true ∧ u.kind ≠ 1 ∧ gapB t u = false ∧ headB (spellGo (some t) r) = bAt u.text 0 ∧ spellGo (some t) r = u.text.data.toList ++ spellGo (some u) q) := by
  rcases behind ht hr with ⟨rfl, h⟩ | ⟨u, q, rfl, hu, ⟨hg, h⟩ | ⟨hg, h⟩⟩
  · exact .inl ⟨h, rfl⟩
  · exact .inr (.inl h)
  · by_cases hk : u.kind = 1
    · right; right; left
      rw [h, line_tok hu hk]; rfl
    · right; right; right
      refine ⟨u, q, rfl, hu, hk, hg, ?_, ?_⟩
      · rw [h, ← bAt_first, bs_text]
      · simp only [spellGo, hg]; rfl
theorem word_no {x : Int} (h : isWordB x = false) : isDigitB x = false ∧ x ≠ 101 ∧ x ≠ 69 := by
  unfold isWordB at h
  simp only [Bool.or_eq_false_iff] at h
  refine ⟨h.2, fun e => ?_, fun e => ?_⟩
  · rw [e] at h; exact absurd h.1 (by decide)
  · rw [e] at h; exact absurd h.1 (by decide)
theorem sign_second : ∀ g ∈ signL, g[1]? ≠ some 32 ∧ g[1]? ≠ some 10 := by decide
theorem op_short {x : UInt8} {rest : List UInt8} (h : rest = [] ∨ headB rest = 32 ∨ headB rest = 10) : (opGo (x :: rest) signL 0 (0, 0)).2 ≤ 1 := by
  rcases opGo_inv (x :: rest) signL 0 (0, 0) with e | ⟨j, g, hg, hp, e⟩
  · rw [e]; exact Nat.zero_le _
  · rw [e]
    show g.length ≤ 1
    have hm := List.mem_of_getElem? hg
    have hl := signL_short g hm
    by_cases h2 : g.length = 2
    · obtain ⟨c1, h1⟩ := sign_second g hm
      have h3 : (x :: rest)[1]? = g[1]? := by
        obtain ⟨z, hz⟩ := hp
        rw [← hz, List.getElem?_append_left (by omega)]
      rw [List.getElem?_cons_succ] at h3
      cases rest with
      | nil =>
        have := prefix_len hp
        simp at this
        omega
      | cons y q =>
        rw [List.getElem?_cons_zero] at h3
        rcases h with h | h | h
        · cases h
        · have : y = 32 := by
            simp only [headB] at h
            exact UInt8.toNat.inj (by show y.toNat = 32; omega)
          rw [this] at h3; exact absurd h3.symm c1
        · have : y = 10 := by
            simp only [headB] at h
            exact UInt8.toNat.inj (by show y.toNat = 10; omega)
          rw [this] at h3; exact absurd h3.symm h1
    · omega
theorem plain_mem {t : ByteArray} (h : plainB t = true) : ∀ b ∈ t.data.toList, ((b.toNat : Int) != 10) = true := by
  intro b hb
  unfold plainB at h
  rw [Bool.not_eq_true', ← Bool.not_eq_true, List.contains_iff_mem] at h
  rw [bne_iff_ne]
  intro e
  have : b = 10 := UInt8.toNat.inj (by show b.toNat = 10; omega)
  exact h (this ▸ hb)
theorem gap_paren {t u : PTok} (hs : t.text.size ≠ 0) (hu : u.text.size ≠ 0) (k : t.kind = 7) (ku : u.kind = 32) (hub : bAt u.text 0 = 40) : gapB t u = false := by
  unfold gapB
  rw [if_neg (by omega), hub, if_neg (by simp [show isWordB 40 = false by decide]), if_neg (by simp; omega), if_neg (by simp; omega), inB_false.2 (by omega)]
  rfl
theorem tok_back {s : ByteArray} {a : Nat} {before : Int} {t : PTok} {r : List PTok} (hst : stands before (nextKind r) t = true) (hr : tokensGo t.kind r = true) (hd : s.data.toList.drop a = t.text.data.toList ++ spellGo (some t) r) : tokAt s a before = ⟨t.kind, t.text, a⟩ := by
  obtain ⟨ht, h7, h2, h5, hdv⟩ := stands_parts hst
  obtain ⟨hs0, hne⟩ := tok_size ht
  have hlen := tok_len t
  have he : a + t.text.size ≤ s.size := by rw [← hlen]; exact drop_size hd hne
  have hcut : s.extract a (a + t.text.size) = t.text := by rw [← hlen, drop_bytes hd hne, bs_text]
  have hb0 : bAt s a = headB t.text.data.toList := by
    rw [bAt_drop hd]
    cases hx : t.text.data.toList with
    | nil => exact absurd hx hne
    | cons c x => rfl
  have hbe : bAt s ((a + t.text.size : Nat) : Int) = headB (spellGo (some t) r) := by
    refine bAt_drop ?_
    rw [← hlen]; exact drop_more hd
  have hlt : a < a + t.text.size := by omega
  have hin : 0 ≤ (a : Int) ∧ (a : Int) < s.size := by omega
  have hbh := behind_two ht hr
  have hf := tok_first ht
  have gn : ∀ u : PTok, tokenOkB u = true → t.kind ≠ 1 → t.kind ≠ 2 → u.kind ≠ 1 → gapB t u = false → _ := fun u hu c1 c2 c3 hg => gap_no hs0 (tok_size hu).1 c1 c2 c3 hg
  have hsplit : ⟨t.kind, t.text, (a : Int)⟩ = (⟨t.kind, s.extract a (a + t.text.size), (a : Int)⟩ : PTok) := by rw [hcut]
  rcases tok_kind ht with k | k | k | k | k | k | k
  · have hx := line_tok ht k
    have hb : bAt s a = 10 := by rw [hb0, hx]; rfl
    have hz : t.text.size = 1 := by rw [← hlen, hx]; rfl
    unfold tokAt
    rw [if_pos hb, hsplit, k, hz]
  · have hb : bAt s a = 35 := hb0.trans (hf.1 k)
    have hrun : lineEnd s a = ((a + t.text.size : Nat) : Int) := by
      unfold lineEnd
      rw [← hlen]
      refine run_exact hd ?_ ?_
      · have h0 := ht
        unfold tokenOkB at h0
        rw [if_neg hs0, k] at h0
        have h1 : (bAt t.text 0 == 35 && plainB t.text) = true := by simpa using h0
        simp only [Bool.and_eq_true] at h1
        exact plain_mem h1.2
      · rcases behind ht hr with ⟨rfl, h⟩ | ⟨u, q, rfl, hu, ⟨hg, h⟩ | ⟨hg, h⟩⟩
        · exact .inl rfl
        · unfold gapB at hg
          rw [if_pos (by omega)] at hg
          cases hg
        · right
          have hk := h2 k
          have hk1 : u.kind = 1 ∨ u.kind = 0 := hk
          have := tok_kind hu
          rw [h, line_tok hu (by omega)]
          rfl
    unfold tokAt
    rw [if_neg (by omega), if_pos hb, hrun, finTok_nat, hsplit, k]
  · have hnum : numEnd t.text 0 = t.text.size := by
      have h0 := ht
      unfold tokenOkB at h0
      rw [if_neg hs0, k] at h0
      simpa using h0
    have hx : isDigitB (bAt s ((a + t.text.size : Nat) : Int)) = false ∧ bAt s ((a + t.text.size : Nat) : Int) ≠ 46 ∧ bAt s ((a + t.text.size : Nat) : Int) ≠ 101 ∧ bAt s ((a + t.text.size : Nat) : Int) ≠ 69 := by
      rw [hbe]
      rcases hbh with ⟨h, _⟩ | h | h | ⟨u, q, rfl, hu, hk, hg, h, _⟩
      · rw [h]; decide
      · rw [h]; decide
      · rw [h]; decide
      · have g := (gn u hu (by omega) (by omega) hk hg).2.1 k
        have g2 := word_no g.1
        rw [h]
        exact ⟨g2.1, g.2, g2.2⟩
    have hend := numEnd_back he (Nat.le_add_right _ _) (by rw [hcut, hnum]; omega) hx.1 hx.2.1 hx.2.2
    have hb : isDigitB (bAt s a) = true ∨ bAt s a = 46 := by rw [hb0]; exact hf.2.1 k
    have hb1 : bAt s a ≠ 10 ∧ bAt s a ≠ 35 := by
      rcases hb with h | h
      · unfold isDigitB at h; rw [inB_true] at h; omega
      · omega
    unfold tokAt
    rw [if_neg hb1.1, if_neg hb1.2, if_pos (by simpa using hb), hend, finTok_nat, hsplit, k]
  · have hq : quoted t.text 0 34 = t.text.size := by
      have h0 := ht
      unfold tokenOkB at h0
      rw [if_neg hs0, k] at h0
      have h1 : strEnd t.text 0 = t.text.size := by simpa using h0
      exact h1
    obtain ⟨hend, hb⟩ := quoted_back (q := 34) (k := a) (e := a + t.text.size) he hlt (by decide) (by rw [hcut, hq]; omega)
    unfold tokAt
    rw [if_neg (by omega), if_neg (by omega), if_neg (by rw [hb]; decide), if_pos hb, strEnd, hend, finTok_nat, hsplit, k]
  · have hq : quoted t.text 0 47 = t.text.size ∧ t.text.size ≠ 2 := by
      have h0 := ht
      unfold tokenOkB at h0
      rw [if_neg hs0, k] at h0
      have h1 : ereEnd t.text 0 = t.text.size := by simpa using h0
      unfold ereEnd at h1
      by_cases c : quoted t.text 0 47 = 0 + 2
      · rw [if_pos c] at h1; omega
      · rw [if_neg c] at h1; omega
    obtain ⟨hend, hb⟩ := quoted_back (q := 47) (k := a) (e := a + t.text.size) he hlt (by decide) (by rw [hcut, hq.1]; omega)
    have hE : ereEnd s a = ((a + t.text.size : Nat) : Int) := by
      unfold ereEnd
      rw [hend, if_neg (by omega)]
    unfold tokAt
    rw [if_neg (by omega), if_neg (by omega), if_neg (by rw [hb]; decide), if_neg (by omega), if_pos (by rw [hb, h5 k]; rfl), hE, finTok_nat, hsplit, k]
  · obtain ⟨hshape, w1, w2, w3⟩ := word_tok ht k
    have hl : isLetterB (bAt s a) = true := by rw [hb0]; exact word_first hshape
    obtain ⟨_, l1, l2, l3, l4, l5, l6, _⟩ := letter_facts hl
    have hall : t.text.data.toList.all (fun b => isWordB (b.toNat : Int)) = true := by
      rw [nameShape_eq] at hshape
      unfold nameShapeL at hshape
      simp only [Bool.and_eq_true] at hshape
      exact hshape.1.1
    have hc1 : t.kind ≠ 1 := by omega
    have hc2 : t.kind ≠ 2 := by omega
    have hnw : isWordB (bAt s ((a + t.text.size : Nat) : Int)) = false := by
      rw [hbe]
      rcases hbh with ⟨h, _⟩ | h | h | ⟨u, q, rfl, hu, hk, hg, h, _⟩
      · rw [h]; decide
      · rw [h]; decide
      · rw [h]; decide
      · rw [h]; exact (gn u hu hc1 hc2 hk hg).1 (last_word hshape hs0)
    have hend : nameEnd s a = ((a + t.text.size : Nat) : Int) := by
      unfold nameEnd
      rw [if_pos hl]
      have := shape_runEnd hd hall (by rw [hlen]; exact hnw)
      rw [this, hlen]
    have hwk : wordKind s t.text ((a + t.text.size : Nat) : Int) = t.kind := by
      unfold wordKind
      rcases k with k | k | k | k
      · obtain ⟨c1, c2⟩ := w1 (.inl k)
        rw [c1, c2, hbe]
        have c40 : headB (spellGo (some t) r) ≠ 40 := by
          rcases hbh with ⟨h, _⟩ | h | h | ⟨u, q, rfl, hu, hk, hg, h, _⟩
          · omega
          · omega
          · omega
          · intro c
            have g := (gn u hu hc1 hc2 hk hg).2.2.1 k
            refine g (paren_kind hu ?_)
            rw [← bAt_first, bs_text, ← h, c]
        have c40' : (headB (spellGo (some t) r) == 40) = false := by simpa using c40
        rw [c40', k]
        rfl
      · obtain ⟨c1, c2⟩ := w1 (.inr k)
        have hn := h7 k
        have c40 : headB (spellGo (some t) r) = 40 := by
          rcases behind ht hr with ⟨rfl, h⟩ | ⟨u, q, rfl, hu, ho⟩
          · exact absurd (show (0 : Int) = 32 from hn) (by decide)
          · have hn : u.kind = 32 := hn
            obtain ⟨j, hj, hg⟩ := sign_tok hu (by omega)
            obtain rfl : j = 2 := by omega
            have hut : u.text.data.toList = [40] := (Option.some.inj hg).symm
            have hub : bAt u.text 0 = 40 := by rw [← bs_text u, hut]; rfl
            have hgap : gapB t u = false := gap_paren hs0 (tok_size hu).1 k hn hub
            rcases ho with ⟨hg2, _⟩ | ⟨_, h⟩
            · rw [hgap] at hg2; cases hg2
            · rw [h, hut]; rfl
        rw [c1, c2, hbe, c40, k]
        rfl
      · obtain ⟨c1, c2⟩ := w2 k
        rw [c1, c2, k]
        rfl
      · rw [w3 k.1, if_pos (by simp; omega)]
    unfold tokAt
    rw [if_neg l2, if_neg l3, if_neg (by rw [l1]; simp; omega), if_neg l5, if_neg (by simp; omega), if_pos hl, hend, Int.toNat_natCast, hcut, if_pos hshape, hwk]
  · obtain ⟨j, hj, hg⟩ := sign_tok ht k
    obtain ⟨f1, f2, f3, f4, f5, f6, _⟩ := sign_first _ (List.mem_of_getElem? hg)
    obtain ⟨_, hl2, hh⟩ := sign_head j _ hg
    rw [← hb0] at f1 f2 f3 f4 f5 f6
    have hop : opAt s a = (t.kind, t.text.size) := by
      unfold opAt
      rw [if_pos hin, Int.toNat_natCast, hd, op_at_sign hg _ ?_, hlen, hj]
      · congr 1
      · intro h1
        cases hx : t.text.data.toList with
        | nil => exact absurd hx hne
        | cons c x =>
          rw [hx] at h1
          have hx0 : x = [] := by simpa using h1
          subst hx0
          rcases hbh with ⟨_, h⟩ | h | h | ⟨u, q, rfl, hu, hk, hgp, h, hR⟩
          · rw [h]; exact op_short (.inl rfl)
          · exact op_short (.inr (.inl h))
          · exact op_short (.inr (.inr h))
          · have g := (gn u hu (by omega) (by omega) hk hgp).2.2.2 k
            have hz : t.text.size = 1 := by rw [← hlen, hx]; rfl
            have hune := (tok_size hu).2
            rw [hz] at g
            have e1 : (opAt (t.text ++ u.text) 0) = opGo (c :: u.text.data.toList) signL 0 (0, 0) := by
              have e2 : (t.text ++ u.text).data.toList = c :: u.text.data.toList := by
                rw [ByteArray.data_append, Array.toList_append, hx]; rfl
              unfold opAt
              rw [if_pos (by rw [ByteArray.size_append]; omega), e2]
              rfl
            rw [e1] at g
            rw [hR]
            cases hu2 : u.text.data.toList with
            | nil => exact absurd hu2 hune
            | cons y z =>
              rw [hu2] at g
              rw [op_two] at g ⊢
              exact g
    have hc0 : (bAt s a == 47 && !endsB before) = false := by
      rw [Bool.and_eq_false_iff]
      by_cases c : bAt s a = 47
      · right
        rw [hdv, Bool.not_true]
        cases hx : t.text.data.toList with
        | nil => exact absurd hx hne
        | cons y x =>
          rw [hx] at hb0 hh
          have := ((hh y rfl).2).1 (by rw [hb0] at c; simp only [headB] at c; omega)
          omega
      · left; simpa using c
    unfold tokAt
    rw [if_neg f1, if_neg f2, if_neg (by rw [f3]; simpa using f4), if_neg f5, if_neg (by rw [hc0]; simp), if_neg (by rw [f6]; simp), hop]
    rw [if_neg hs0]
    show finTok s t.kind a ((a + t.text.size : Nat) : Int) = _
    rw [finTok_nat, hcut]
/-- the first byte of a valid token is neither a blank nor a backslash -/
theorem head_no {t : PTok} (ht : tokenOkB t = true) : headB t.text.data.toList ≠ 32 ∧ headB t.text.data.toList ≠ 9 ∧ headB t.text.data.toList ≠ 92 := by
  obtain ⟨f2, f3, f4, f5⟩ := tok_first ht
  rcases tok_kind ht with k | k | k | k | k | k | k
  · rw [line_tok ht k]; decide
  · rw [f2 k]; decide
  · rcases f3 k with h | h
    · unfold isDigitB at h; rw [inB_true] at h; omega
    · rw [h]; decide
  · rw [f4 k]; decide
  · rw [f5 k]; decide
  · have := letter_facts (word_first (word_tok ht k).1)
    omega
  · obtain ⟨j, hj, hg⟩ := sign_tok ht k
    have := sign_first _ (List.mem_of_getElem? hg)
    exact ⟨this.2.2.2.2.2.2.1, this.2.2.2.2.2.2.2.1, this.2.2.2.2.2.2.2.2⟩
theorem kind_no {t : PTok} (ht : tokenOkB t = true) : t.kind ≠ 0 := by
  have := tok_kind ht
  omega
def faceOf (t : PTok) : Int × ByteArray := (t.kind, t.text)
/-- the kind of a token that may stand ahead -/
def kindOf : Option PTok → Int
  | none => 0
  | some t => t.kind
theorem lex_tok {s : ByteArray} {a : Nat} {t : PTok} {r m : List PTok} {before : Int} (hst : stands before (nextKind r) t = true) (hr : tokensGo t.kind r = true) (hd : s.data.toList.drop a = t.text.data.toList ++ spellGo (some t) r)
    (hm : lexGo s (a + t.text.size) t.kind = .ok m) : lexGo s a before = .ok (⟨t.kind, t.text, a⟩ :: m) := by
  have ht := (stands_parts hst).1
  obtain ⟨hs0, hne⟩ := tok_size ht
  have hk := kind_no ht
  have hb := tok_back hst hr hd
  have hn := head_no ht
  have he : a + t.text.size ≤ s.size := by rw [← tok_len t]; exact drop_size hd hne
  have hb0 : bAt s a = headB t.text.data.toList := by
    rw [bAt_drop hd]
    cases hx : t.text.data.toList with
    | nil => exact absurd hx hne
    | cons c x => rfl
  rw [lexGo, dif_pos (by omega), if_neg (by unfold isBlankB; rw [hb0]; simp; omega), if_neg (by rw [hb0]; omega), hb, dif_neg (by simp only; omega)]
  simp only
  rw [hm]
theorem lex_blank {s : ByteArray} {a : Nat} {before : Int} (h : bAt s a = 32) : lexGo s a before = lexGo s (a + 1) before := by
  have hl := bAt_range (s := s) (k := (a : Int)) (by omega)
  rw [lexGo, dif_pos (by omega), if_pos (by rw [h]; decide)]
theorem relex_go {s : ByteArray} : ∀ (l : List PTok) (a : Nat) (prev : Option PTok), tokensGo (kindOf prev) l = true → s.data.toList.drop a = spellGo prev l → a ≤ s.size → ∃ m, lexGo s a (kindOf prev) = .ok m ∧ m.map faceOf = l.map faceOf := by
  have hsz : s.data.toList.length = s.size := by simp
  intro l
  induction l with
  | nil =>
    intro a prev _ hd ha
    have hd0 : s.data.toList.drop a = [] := by rw [hd]; cases prev <;> rfl
    have := List.drop_eq_nil_iff.1 hd0
    refine ⟨[], ?_, rfl⟩
    rw [lexGo, dif_neg (by omega)]
  | cons t r ih =>
    intro a prev hg hd ha
    rw [tokensGo_cons] at hg
    simp only [Bool.and_eq_true] at hg
    obtain ⟨hst, hr⟩ := hg
    have ht := (stands_parts hst).1
    have hne := (tok_size ht).2
    have main : ∀ b : Nat, s.data.toList.drop b = t.text.data.toList ++ spellGo (some t) r → ∃ m, lexGo s b (kindOf prev) = .ok m ∧ m.map faceOf = (t :: r).map faceOf := by
      intro b hb
      have he := drop_size hb hne
      rw [tok_len] at he
      have hmore := drop_more hb
      rw [tok_len] at hmore
      obtain ⟨m, hm, hf⟩ := ih (b + t.text.size) (some t) hr hmore he
      refine ⟨_, lex_tok hst hr hb hm, ?_⟩
      simp only [List.map_cons, hf]
      rfl
    cases prev with
    | none => exact main a hd
    | some p =>
      cases hgp : gapB p t
      · refine main a ?_
        rw [hd]
        simp only [spellGo, hgp]
        rfl
      · have hd2 : s.data.toList.drop a = [32] ++ (t.text.data.toList ++ spellGo (some t) r) := by
          rw [hd]
          simp only [spellGo, hgp, if_true]
        have hb : bAt s a = 32 := bAt_drop hd2
        obtain ⟨m, hm, hf⟩ := main (a + 1) (drop_more hd2)
        exact ⟨m, by rw [lex_blank hb]; exact hm, hf⟩
theorem relex {l : List PTok} (h : tokensOkB l = true) : ∃ m, lexGo (spellL l) 0 0 = .ok m ∧ m.map faceOf = l.map faceOf := by
  unfold tokensOkB at h
  simp only [Bool.and_eq_true] at h
  refine relex_go l 0 none h.2 ?_ (Nat.zero_le _)
  rw [spellL, bs_data]
  rfl
theorem stands_face {b n : Int} {t u : PTok} (h : faceOf t = faceOf u) : stands b n t = stands b n u := by
  obtain ⟨k, x, p⟩ := t
  obtain ⟨k2, x2, p2⟩ := u
  simp only [faceOf, Prod.mk.injEq] at h
  obtain ⟨rfl, rfl⟩ := h
  rfl
theorem tokensGo_face : ∀ {l m : List PTok} {b : Int}, m.map faceOf = l.map faceOf → tokensGo b m = tokensGo b l
  | [], [], _, _ => rfl
  | [], _ :: _, _, h => by simp at h
  | _ :: _, [], _, h => by simp at h
  | t :: l, u :: m, b, h => by
    simp only [List.map_cons, List.cons.injEq] at h
    have hn : nextKind m = nextKind l := by
      have h2 := h.2
      cases m <;> cases l <;> simp_all [nextKind, faceOf]
    have hk : u.kind = t.kind := by have := h.1; simp only [faceOf, Prod.mk.injEq] at this; exact this.1
    rw [tokensGo_cons, tokensGo_cons, hn, stands_face h.1, hk, tokensGo_face h.2]
theorem tokensOk_face {l m : List PTok} (h : m.map faceOf = l.map faceOf) : tokensOkB m = tokensOkB l := by
  have hl : m.length = l.length := by simpa using congrArg List.length h
  unfold tokensOkB
  rw [tokensGo_face h, hl]
end Go.Proofs.YtdajhcammnlonaaDoor
