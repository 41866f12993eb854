/- Tokens that are read out of a text lie in it one behind the other, and are valid. No program is in sight here. -/
import Derived.Test.YtdajhcammnlonaaDoorScansPure
namespace Go.Proofs.YtdajhcammnlonaaDoor
open Go.RowKit
set_option linter.unusedVariables false

theorem findFrom_get {x : List UInt8} : ∀ (l : List (List UInt8)) (k : Nat), 0 ≤ findFrom x l k → ∃ j : Nat, findFrom x l k = ((k + j : Nat) : Int) ∧ l[j]? = some x
  | [], k, h => by simp [findFrom] at h
  | y :: r, k, h => by
    rw [findFrom] at h ⊢
    by_cases e : y = x
    · rw [if_pos e]; exact ⟨0, by simp, by simp [e]⟩
    · rw [if_neg e] at h ⊢
      obtain ⟨j, h1, h2⟩ := findFrom_get r (k + 1) h
      exact ⟨j + 1, by rw [h1]; omega, by simpa using h2⟩
theorem bs_toList (s : ByteArray) : bs s.data.toList = s := by simp [bs]
theorem bs_data (l : List UInt8) : (bs l).data.toList = l := by simp [bs]
theorem bs_size (l : List UInt8) : (bs l).size = l.length := by show l.toArray.size = _; simp
theorem spellOf_keyword {s : ByteArray} (h : keywordOf s ≠ 0) : spellOf (keywordOf s) = s ∧ 10 ≤ keywordOf s ∧ keywordOf s ≤ 26 := by
  have hr := keywordOf_range s
  have hk : 0 ≤ findIx kwL s := by
    unfold keywordOf at h
    by_cases e : findIx kwL s < 0
    · rw [if_pos e] at h; exact absurd rfl h
    · omega
  have e : keywordOf s = 10 + findIx kwL s := by unfold keywordOf; rw [if_neg (by omega)]
  refine ⟨?_, by omega, by omega⟩
  obtain ⟨j, h1, h2⟩ := findFrom_get kwL 0 hk
  have h3 : findIx kwL s = (j : Int) := by unfold findIx; rw [h1]; omega
  have hin : inB (10 + (j : Int)) 10 26 = true := inB_true.2 (by omega)
  rw [e, h3]
  unfold spellOf
  rw [if_neg (by simp; omega), if_pos hin]
  have e2 : (10 + (j : Int) - 10).toNat = j := by omega
  rw [e2, List.getD_eq_getElem?_getD, h2]
  exact bs_toList s
theorem opGo_inv (t : List UInt8) : ∀ (l : List (List UInt8)) (i : Nat) (a : Int × Nat), opGo t l i a = a ∨ ∃ (j : Nat) (g : List UInt8), l[j]? = some g ∧ g <+: t ∧ opGo t l i a = (((30 + (i + j) : Nat) : Int), g.length)
  | [], _, _ => .inl rfl
  | g :: r, i, a => by
    rw [opGo]
    by_cases h : g.length > a.2 ∧ g <+: t
    · rw [if_pos h]
      rcases opGo_inv t r (i + 1) (((30 + i : Nat) : Int), g.length) with h1 | ⟨j, g', h1, h2, h3⟩
      · exact .inr ⟨0, g, rfl, h.2, by rw [h1]; simp⟩
      · exact .inr ⟨j + 1, g', by simpa using h1, h2, by rw [h3]; congr 2; omega⟩
    · rw [if_neg h]
      rcases opGo_inv t r (i + 1) a with h1 | ⟨j, g', h1, h2, h3⟩
      · exact .inl h1
      · exact .inr ⟨j + 1, g', by simpa using h1, h2, by rw [h3]; congr 2; omega⟩
/-- a sign that stands at a place -/
theorem opAt_inv {s : ByteArray} {a : Nat} (h : (opAt s a).2 ≠ 0) : ∃ (j : Nat) (g : List UInt8), signL[j]? = some g ∧ g <+: s.data.toList.drop a ∧ opAt s a = (((30 + j : Nat) : Int), g.length) := by
  unfold opAt at h ⊢
  by_cases hc : 0 ≤ (a : Int) ∧ (a : Int) < s.size
  · rw [if_pos hc] at h ⊢
    simp only [Int.toNat_natCast] at h ⊢
    rcases opGo_inv (s.data.toList.drop a) signL 0 (0, 0) with h1 | ⟨j, g, h1, h2, h3⟩
    · rw [h1] at h; exact absurd rfl h
    · exact ⟨j, g, h1, h2, by rw [h3]; simp⟩
  · rw [if_neg hc] at h; exact absurd rfl h
theorem signL_len : signL.length = 39 := rfl
theorem extract_bytes (s : ByteArray) (a e : Nat) (he : e ≤ s.size) : (s.extract a e).data.toList = (s.data.toList.drop a).take (e - a) := by
  rw [ByteArray.data_extract]
  simp [List.take_drop, Array.toList_extract]
theorem ba_ext {a b : ByteArray} (h : a.data.toList = b.data.toList) : a = b := by
  have : a.data = b.data := Array.toList_inj.1 h
  cases a; cases b; simp_all
theorem prefix_take {g t : List UInt8} (h : g <+: t) : t.take g.length = g := (List.prefix_iff_eq_take.1 h).symm
theorem prefix_len {g t : List UInt8} (h : g <+: t) : g.length ≤ t.length := h.length_le
theorem drop_head (s : ByteArray) (a : Nat) (ha : a < s.size) : ∃ r, s.data.toList.drop a = s[a] :: r := by
  have hl : a < s.data.toList.length := by simpa using ha
  refine ⟨s.data.toList.drop (a + 1), ?_⟩
  rw [List.drop_eq_getElem_cons hl]
  rfl
theorem prefix_head {g : List UInt8} {s : ByteArray} {a : Nat} (ha : a < s.size) (h : g <+: s.data.toList.drop a) (h0 : g ≠ []) : ∃ c, g.head? = some c ∧ bAt s a = (c.toNat : Int) := by
  obtain ⟨r, hr⟩ := drop_head s a ha
  rw [hr] at h
  cases g with
  | nil => exact absurd rfl h0
  | cons c g =>
    have := (List.cons_prefix_cons.1 h).1
    subst this
    exact ⟨_, rfl, bAt_nat ha⟩
theorem sign_head (j : Nat) (g : List UInt8) (hg : signL[j]? = some g) : g ≠ [] ∧ g.length ≤ 2 ∧ (∀ c, g.head? = some c → (c.toNat = 40 ↔ j = 2) ∧ (c.toNat = 47 ↔ (j = 28 ∨ j = 11))) := by
  have hj : j < 39 := (List.getElem?_eq_some_iff.1 hg).1
  have key : ∀ j, j < 39 → ∀ g, signL[j]? = some g → g ≠ [] ∧ g.length ≤ 2 ∧ (∀ c, g.head? = some c → (c.toNat = 40 ↔ j = 2) ∧ (c.toNat = 47 ↔ (j = 28 ∨ j = 11))) := by
    intro j hj
    have h : ∀ j, j < 39 → (match signL[j]? with | some (c :: r) => decide ((c :: r).length ≤ 2) && (decide (c.toNat = 40) == decide (j = 2)) && (decide (c.toNat = 47) == decide (j = 28 ∨ j = 11)) | _ => false) = true := by decide
    have h1 := h j hj
    intro g hg
    rw [hg] at h1
    cases g with
    | nil => cases h1
    | cons c r =>
      simp only [Bool.and_eq_true, beq_iff_eq, decide_eq_decide, decide_eq_true_eq] at h1
      refine ⟨by simp, h1.1.1, fun c' hc => ?_⟩
      simp at hc
      subst hc
      exact ⟨h1.1.2, h1.2⟩
  exact key j hj g hg
theorem spellOf_sign {j : Nat} {g : List UInt8} (h : signL[j]? = some g) : spellOf (30 + (j : Int)) = bs g := by
  have hj : j < 39 := (List.getElem?_eq_some_iff.1 h).1
  unfold spellOf
  rw [if_neg (by simp; omega), if_neg (by rw [Bool.not_eq_true, inB_false]; omega), if_pos (inB_true.2 (by omega))]
  have e2 : (30 + (j : Int) - 30).toNat = j := by omega
  rw [e2, List.getD_eq_getElem?_getD, h]
  rfl
/-- the kind of the first token -/
def nextKind : List PTok → Int
  | [] => 0
  | u :: _ => u.kind
theorem tokensGo_cons (before : Int) (t : PTok) (r : List PTok) : tokensGo before (t :: r) = (stands before (nextKind r) t && tokensGo t.kind r) := by
  cases r <;> rfl
theorem kind_word (t : PTok) (h : 10 ≤ t.kind) (hs : t.text.size ≠ 0) : tokenOkB t = (t.text.data.toList == (spellOf t.kind).data.toList) := by
  unfold tokenOkB
  rw [if_neg hs, if_neg (by simp; omega), if_neg (by simp; omega), if_neg (by simp; omega), if_neg (by simp; omega), if_neg (by simp; omega), if_neg (by simp; omega)]
theorem stands_plain (before next : Int) (t : PTok) (h : tokenOkB t = true) (h7 : t.kind = 7 → next = 32) (h2 : t.kind = 2 → next = 1 ∨ next = 0) (h5 : t.kind = 5 → endsB before = false) (hd : t.kind = 58 ∨ t.kind = 41 → endsB before = true) : stands before next t = true := by
  unfold stands
  simp only [h, Bool.true_and, Bool.and_eq_true, Bool.not_eq_true', Bool.and_eq_false_iff, bne_eq_false_iff_eq, beq_eq_false_iff_ne, Bool.or_eq_false_iff]
  refine ⟨⟨⟨?_, ?_⟩, ?_⟩, ?_⟩
  · by_cases e : t.kind = 7
    · exact .inr (h7 e)
    · exact .inl e
  · by_cases e : t.kind = 2
    · rcases h2 e with e2 | e2
      · exact .inl (.inr e2)
      · exact .inr e2
    · exact .inl (.inl e)
  · by_cases e : t.kind = 5
    · exact .inr (h5 e)
    · exact .inl e
  · by_cases e : t.kind = 58 ∨ t.kind = 41
    · exact .inr (by rw [hd e]; rfl)
    · exact .inl ⟨fun e2 => e (.inl e2), fun e2 => e (.inr e2)⟩
theorem runEnd_at (p : Int → Bool) (s : ByteArray) (k : Int) (h0 : 0 ≤ k) : (s.size : Int) ≤ runEnd p s k ∨ p (bAt s (runEnd p s k)) = false := by
  rw [runEnd]
  split
  · rename_i h
    exact runEnd_at p s (k + 1) (by omega)
  · rename_i h
    by_cases hk : k < s.size
    · right
      by_cases hp : p (bAt s k) = true
      · exact absurd ⟨⟨h0, hk⟩, hp⟩ h
      · simpa using hp
    · left; omega
termination_by (s.size - k).toNat
decreasing_by omega
theorem runEnd_mid (p : Int → Bool) (s : ByteArray) (k j : Int) (h0 : 0 ≤ k) (h1 : k ≤ j) (h2 : j < runEnd p s k) : p (bAt s j) = true := by
  rw [runEnd] at h2
  split at h2
  · rename_i h
    by_cases e : j = k
    · subst e; exact h.2
    · exact runEnd_mid p s (k + 1) j (by omega) (by omega) h2
  · omega
termination_by (s.size - k).toNat
decreasing_by omega
theorem runEnd_lt (p : Int → Bool) (s : ByteArray) (k : Int) (h : (0 ≤ k ∧ k < s.size) ∧ p (bAt s k) = true) : k < runEnd p s k := by
  rw [runEnd, dif_pos h]
  have := runEnd_ge p s (k + 1)
  omega
theorem nextKind_paren {s : ByteArray} {e : Nat} {k : Int} {r : List PTok} (hb : bAt s e = 40) (hr : lexGo s e k = .ok r) : nextKind r = 32 := by
  have he := bAt_range (s := s) (k := e) (by rw [hb]; omega)
  rw [lexGo, dif_pos (by omega)] at hr
  rw [if_neg (by rw [hb]; decide), if_neg (by rw [hb]; omega)] at hr
  split at hr
  · cases hr
  · rename_i hn
    have htk : tokAt s e k = if (opAt s e).2 = 0 then noTok else finTok s (opAt s e).1 e (e + (opAt s e).2 : Nat) := by
      unfold tokAt
      rw [hb]
      simp [isDigitB, isLetterB, inB]
    by_cases h0 : (opAt s e).2 = 0
    · rw [if_pos h0] at htk
      rw [htk] at hn
      exact absurd (.inl rfl) hn
    · rw [if_neg h0] at htk
      obtain ⟨j, g, h1, h2, h3⟩ := opAt_inv h0
      obtain ⟨hne, _, hh⟩ := sign_head j g h1
      obtain ⟨c, hc, hbc⟩ := prefix_head (by omega) h2 hne
      have hj : j = 2 := ((hh c hc).1).1 (by omega)
      have hkd : (tokAt s e k).kind = 32 := by
        rw [htk, h3]
        unfold finTok
        rw [if_neg (by omega), hj]
        rfl
      split at hr
      · cases hr
      · obtain rfl := Except.ok.inj hr
        exact hkd
theorem nextKind_line {s : ByteArray} {e : Nat} {k : Int} {r : List PTok} (hb : bAt s e = 10) (hr : lexGo s e k = .ok r) : nextKind r = 1 := by
  have he := bAt_range (s := s) (k := e) (by rw [hb]; omega)
  rw [lexGo, dif_pos (by omega)] at hr
  rw [if_neg (by rw [hb]; decide), if_neg (by rw [hb]; omega)] at hr
  split at hr
  · cases hr
  · rename_i hn
    have hkd : (tokAt s e k).kind = 1 := by unfold tokAt; rw [if_pos hb]
    split at hr
    · cases hr
    · obtain rfl := Except.ok.inj hr
      exact hkd
theorem finTok_ok {s : ByteArray} {k : Int} {a : Nat} {e : Int} (hk : (finTok s k a e).kind ≠ 0) : 0 ≤ e ∧ finTok s k a e = ⟨k, s.extract a e.toNat, a⟩ := by
  unfold finTok at hk ⊢
  by_cases h : e < 0
  · rw [if_pos h] at hk; exact absurd rfl hk
  · rw [if_neg h]; exact ⟨by omega, rfl⟩
def LineB (b : Int) : Bool := b != 10
theorem lineEnd_mem (s : ByteArray) (a e : Nat) (he : e ≤ s.size) (h : ∀ j : Nat, a ≤ j → j < e → bAt s j ≠ 10) : plainB (s.extract a e) = true := by
  unfold plainB
  rw [Bool.not_eq_true', List.contains_eq_mem, decide_eq_false_iff_not]
  intro hm
  obtain ⟨i, hi⟩ := List.mem_iff_getElem?.1 hm
  rw [extract_bytes s a e he] at hi
  have hi' : i < e - a := by
    have h1 := (List.getElem?_eq_some_iff.1 hi).1
    rw [List.length_take] at h1
    omega
  rw [List.getElem?_take_of_lt hi', List.getElem?_drop] at hi
  have hb := h (a + i) (by omega) (by omega)
  rw [bAt_nat (by omega)] at hb
  apply hb
  have e1 : s.data.toList[a + i]? = some s[a + i] := by
    rw [Array.getElem?_toList, Array.getElem?_eq_getElem (by show a + i < s.size; omega)]
    rfl
  rw [e1] at hi
  rw [Option.some.inj hi]
  rfl
/-- the token that is read at a place: where it lies, and that it may stand there -/
theorem tok_ok {s : ByteArray} {a : Nat} {before : Int} {t : PTok} {r : List PTok} (ha : a < s.size) (ht : tokAt s a before = t) (hk : t.kind ≠ 0) (hs : t.text.size ≠ 0) (hr : lexGo s (a + t.text.size) t.kind = .ok r) :
    t.at_ = a ∧ a + t.text.size ≤ s.size ∧ s.extract a (a + t.text.size) = t.text ∧ stands before (nextKind r) t = true := by
  -- from where it ends
  have place : ∀ (k : Int) (e : Nat), e ≤ s.size → t = ⟨k, s.extract a e, a⟩ → t.at_ = a ∧ a + t.text.size ≤ s.size ∧ s.extract a (a + t.text.size) = t.text ∧ t.kind = k ∧ a + t.text.size = e := by
    intro k e he h
    have hz : t.text.size = e - a := by rw [h]; exact size_ext s a e he
    have e1 : a + t.text.size = e := by omega
    refine ⟨by rw [h], by omega, by rw [e1, h], by rw [h], e1⟩
  unfold tokAt at ht
  by_cases c1 : bAt s a = 10
  · rw [if_pos c1] at ht
    obtain ⟨p1, p2, p3, p4, p5⟩ := place 1 (a + 1) (by omega) ht.symm
    refine ⟨p1, p2, p3, stands_plain _ _ _ ?_ (fun h => by omega) (fun h => by omega) (fun h => by omega) (fun h => by omega)⟩
    have hx : t.text = bs [10] := by
      apply ba_ext
      rw [← p3, p5, extract_bytes s a (a + 1) (by omega), bs_data]
      obtain ⟨q, hq⟩ := drop_head s a ha
      rw [hq]
      have h1 := bAt_nat ha
      have h2 : s[a] = (10 : UInt8) := UInt8.toNat_inj.1 (by rw [show (10 : UInt8).toNat = 10 from rfl]; omega)
      rw [h2]
      simp
    unfold tokenOkB
    rw [if_neg hs, p4, hx]
    decide
  · rw [if_neg c1] at ht
    by_cases c2 : bAt s a = 35
    · rw [if_pos c2] at ht
      obtain ⟨f1, f2⟩ := finTok_ok (by rw [ht]; exact hk)
      rw [f2] at ht
      have hle := runEnd_le (fun b => b != 10) s a (by omega)
      have hge := runEnd_ge (fun b => b != 10) s a
      obtain ⟨e, he⟩ : ∃ e : Nat, lineEnd s a = e := ⟨(lineEnd s a).toNat, by omega⟩
      have he' : runEnd (fun b => b != 10) s a = e := he
      rw [he', ] at hle hge
      rw [he] at ht
      obtain ⟨p1, p2, p3, p4, p5⟩ := place 2 e (by omega) ht.symm
      have hnx : nextKind r = 1 ∨ nextKind r = 0 := by
        rw [p5] at hr
        rcases runEnd_at (fun b => b != 10) s a (by omega) with h | h
        · rw [he'] at h
          rw [lexGo, dif_neg (by omega)] at hr
          obtain rfl := Except.ok.inj hr
          exact .inr rfl
        · rw [he'] at h
          exact .inl (nextKind_line (by simpa using h) hr)
      refine ⟨p1, p2, p3, stands_plain _ _ _ ?_ (fun h => by omega) (fun _ => hnx) (fun h => by omega) (fun h => by omega)⟩
      have hb0 : bAt t.text 0 = 35 := by
        rw [← p3, p5, bAt_ext s a e (by omega) 0 (by omega), if_pos (by omega)]
        simpa using c2
      have hpl : plainB t.text = true := by
        rw [← p3, p5]
        refine lineEnd_mem s a e (by omega) fun j h1 h2 => ?_
        have := runEnd_mid (fun b => b != 10) s a j (by omega) (by omega) (by rw [he']; omega)
        simpa using this
      unfold tokenOkB
      rw [if_neg hs, p4, hb0, hpl]
      rfl
    · rw [if_neg c2] at ht
      by_cases c3 : (isDigitB (bAt s a) || bAt s a == 46) = true
      · rw [if_pos c3] at ht
        obtain ⟨f1, f2⟩ := finTok_ok (by rw [ht]; exact hk)
        rw [f2] at ht
        obtain ⟨_, b1, b2⟩ := numEnd_bounds f1
        obtain ⟨e, he⟩ : ∃ e : Nat, numEnd s a = e := ⟨(numEnd s a).toNat, by omega⟩
        rw [he] at ht
        obtain ⟨p1, p2, p3, p4, p5⟩ := place 3 e (by omega) ht.symm
        refine ⟨p1, p2, p3, stands_plain _ _ _ ?_ (fun h => by omega) (fun h => by omega) (fun h => by omega) (fun h => by omega)⟩
        have hx := numEnd_ext he
        have hte : t.text = s.extract a e := by rw [← ht]; rfl
        unfold tokenOkB
        rw [if_neg hs, p4, hte, hx.1, hx.2]
        simp
      · rw [if_neg c3] at ht
        by_cases c4 : bAt s a = 34
        · rw [if_pos c4] at ht
          obtain ⟨f1, f2⟩ := finTok_ok (by rw [ht]; exact hk)
          rw [f2] at ht
          obtain ⟨_, b1, b2⟩ := quoted_bounds (by omega : (34 : Int) ≠ -1) f1
          obtain ⟨e, he⟩ : ∃ e : Nat, strEnd s a = e := ⟨(strEnd s a).toNat, by omega⟩
          have he' : quoted s a 34 = e := he
          rw [he] at ht
          obtain ⟨p1, p2, p3, p4, p5⟩ := place 4 e (by omega) ht.symm
          refine ⟨p1, p2, p3, stands_plain _ _ _ ?_ (fun h => by omega) (fun h => by omega) (fun h => by omega) (fun h => by omega)⟩
          have hx := quoted_ext (by omega) he'
          have hte : t.text = s.extract a e := by rw [← ht]; rfl
          unfold tokenOkB strEnd
          rw [if_neg hs, p4, hte, hx.1, hx.2]
          simp
        · rw [if_neg c4] at ht
          by_cases c5 : (bAt s a == 47 && !endsB before) = true
          · rw [if_pos c5] at ht
            obtain ⟨f1, f2⟩ := finTok_ok (by rw [ht]; exact hk)
            rw [f2] at ht
            have hq : quoted s a 47 ≠ a + 2 ∧ ereEnd s a = quoted s a 47 := by
              unfold ereEnd at f1 ⊢
              by_cases e : quoted s a 47 = a + 2
              · rw [if_pos e] at f1; omega
              · rw [if_neg e]; exact ⟨e, rfl⟩
            obtain ⟨_, b1, b2⟩ := quoted_bounds (by omega : (47 : Int) ≠ -1) (by rw [← hq.2]; exact f1)
            obtain ⟨e, he'⟩ : ∃ e : Nat, quoted s a 47 = e := ⟨(quoted s a 47).toNat, by omega⟩
            rw [hq.2, he'] at ht
            obtain ⟨p1, p2, p3, p4, p5⟩ := place 5 e (by omega) ht.symm
            refine ⟨p1, p2, p3, stands_plain _ _ _ ?_ (fun h => by omega) (fun h => by omega) (fun h => ?_) (fun h => by omega)⟩
            · have hx := quoted_ext (by omega) he'
              have hte : t.text = s.extract a e := by rw [← ht]; rfl
              have hz : ereEnd t.text 0 = (t.text.size : Int) := by
                unfold ereEnd
                rw [hte, hx.1, hx.2, if_neg (by omega)]
              unfold tokenOkB
              rw [if_neg hs, p4, hz]
              simp
            · simp only [Bool.and_eq_true, Bool.not_eq_true'] at c5
              exact c5.2
          · rw [if_neg c5] at ht
            by_cases c6 : isLetterB (bAt s a) = true
            · rw [if_pos c6] at ht
              have hne : nameEnd s a = runEnd isWordB s a := by unfold nameEnd; rw [if_pos c6]
              rw [hne] at ht
              have hle := runEnd_le isWordB s a (by omega)
              have hge := runEnd_ge isWordB s a
              obtain ⟨e, he⟩ : ∃ e : Nat, runEnd isWordB s a = e := ⟨(runEnd isWordB s a).toNat, by omega⟩
              rw [he] at ht hle hge
              simp only [Int.toNat_natCast] at ht
              by_cases c7 : nameShape (s.extract a e) = true
              · rw [if_pos c7] at ht
                obtain ⟨p1, p2, p3, p4, p5⟩ := place _ e (by omega) ht.symm
                have hte : t.text = s.extract a e := by rw [← ht]
                rw [← hte] at p4 c7
                unfold wordKind at p4
                by_cases k1 : keywordOf t.text = 0
                · rw [if_neg (by simpa using k1)] at p4
                  by_cases k2 : isBuiltinB t.text = true
                  · rw [if_pos k2] at p4
                    refine ⟨p1, p2, p3, stands_plain _ _ _ ?_ (fun h => by omega) (fun h => by omega) (fun h => by omega) (fun h => by omega)⟩
                    unfold tokenOkB
                    rw [if_neg hs, p4]
                    simpa using k2
                  · rw [if_neg k2] at p4
                    have hnk : nameOkB t.text = true := by
                      unfold nameOkB
                      rw [c7, k1]
                      simpa using k2
                    by_cases k3 : bAt s e = 40
                    · rw [if_pos (by simpa using k3)] at p4
                      refine ⟨p1, p2, p3, stands_plain _ _ _ ?_ (fun _ => ?_) (fun h => by omega) (fun h => by omega) (fun h => by omega)⟩
                      · unfold tokenOkB
                        rw [if_neg hs, p4]
                        simpa using hnk
                      · rw [p5] at hr
                        exact nextKind_paren k3 hr
                    · rw [if_neg (by simpa using k3)] at p4
                      refine ⟨p1, p2, p3, stands_plain _ _ _ ?_ (fun h => by omega) (fun h => by omega) (fun h => by omega) (fun h => by omega)⟩
                      unfold tokenOkB
                      rw [if_neg hs, p4]
                      simpa using hnk
                · rw [if_pos (by simpa using k1)] at p4
                  obtain ⟨q1, q2, q3⟩ := spellOf_keyword k1
                  refine ⟨p1, p2, p3, stands_plain _ _ _ ?_ (fun h => by omega) (fun h => by omega) (fun h => by omega) (fun h => by omega)⟩
                  rw [kind_word t (by omega) hs, p4, q1]
                  simp
              · rw [if_neg c7] at ht
                rw [← ht] at hk
                exact absurd rfl hk
            · rw [if_neg c6] at ht
              by_cases c7 : (opAt s a).2 = 0
              · rw [if_pos c7] at ht
                rw [← ht] at hk
                exact absurd rfl hk
              · rw [if_neg c7] at ht
                obtain ⟨f1, f2⟩ := finTok_ok (by rw [ht]; exact hk)
                rw [f2] at ht
                obtain ⟨j, g, h1, h2, h3⟩ := opAt_inv c7
                have hgl := prefix_len h2
                rw [List.length_drop] at hgl
                have hsz : s.data.toList.length = s.size := by simp
                rw [h3] at ht
                simp only [Int.toNat_natCast] at ht
                obtain ⟨hne, _, hh⟩ := sign_head j g h1
                have hj : j < 39 := (List.getElem?_eq_some_iff.1 h1).1
                have hgp : 0 < g.length := List.length_pos_iff.2 hne
                obtain ⟨p1, p2, p3, p4, p5⟩ := place _ (a + g.length) (by omega) ht.symm
                refine ⟨p1, p2, p3, stands_plain _ _ _ ?_ (fun h => by omega) (fun h => by omega) (fun h => by omega) (fun h => ?_)⟩
                · rw [kind_word t (by omega) hs, p4, show ((30 + j : Nat) : Int) = 30 + (j : Int) by omega, spellOf_sign h1]
                  have hx : t.text = bs g := by
                    apply ba_ext
                    rw [← p3, p5, extract_bytes s a (a + g.length) (by omega), bs_data]
                    rw [show a + g.length - a = g.length by omega, prefix_take h2]
                  rw [hx]
                  simp
                · obtain ⟨c, hc, hbc⟩ := prefix_head ha h2 hne
                  have hc47 : c.toNat = 47 := ((hh c hc).2).2 (by omega)
                  have hb47 : bAt s a = 47 := by omega
                  rw [hb47] at c5
                  simpa using c5
/-- tokens lie one behind the other in a text, from a place on -/
def Places (s : ByteArray) : Nat → List PTok → Prop
  | _, [] => True
  | a, t :: r => (a : Int) ≤ t.at_ ∧ t.text.size ≠ 0 ∧ t.at_ + t.text.size ≤ s.size ∧ s.extract t.at_.toNat (t.at_.toNat + t.text.size) = t.text ∧ tokenOkB t = true ∧
      (∀ k : Nat, a ≤ k → (k : Int) < t.at_ → bAt s k = 32 ∨ bAt s k = 9 ∨ bAt s k = 92 ∨ bAt s k = 10) ∧ Places s (t.at_.toNat + t.text.size) r
theorem lex_places (s : ByteArray) : ∀ (m a : Nat) (before : Int) (a0 : Nat) (l : List PTok), s.size - a ≤ m → lexGo s a before = .ok l → a0 ≤ a → (∀ k : Nat, a0 ≤ k → k < a → bAt s k = 32 ∨ bAt s k = 9 ∨ bAt s k = 92 ∨ bAt s k = 10) →
    Places s a0 l ∧ tokensGo before l = true ∧ l.length ≤ s.size - a := by
  intro m
  induction m with
  | zero =>
    intro a before a0 l hm h h0 hb
    rw [lexGo, dif_neg (by omega)] at h
    obtain rfl := Except.ok.inj h
    exact ⟨trivial, rfl, by simp⟩
  | succ m ih =>
    intro a before a0 l hm h h0 hb
    by_cases ha : a < s.size
    · rw [lexGo, dif_pos ha] at h
      by_cases c1 : isBlankB (bAt s a) = true
      · rw [if_pos c1] at h
        have := ih (a + 1) before a0 l (by omega) h (by omega) (fun k h1 h2 => by
          by_cases e : k = a
          · subst e
            simp [isBlankB] at c1
            omega
          · exact hb k h1 (by omega))
        exact ⟨this.1, this.2.1, by omega⟩
      · rw [if_neg c1] at h
        by_cases c2 : bAt s a = 92 ∧ bAt s (a + 1) = 10
        · rw [if_pos c2] at h
          have hr := bAt_range (s := s) (k := (a : Int) + 1) (by rw [c2.2]; omega)
          have := ih (a + 2) before a0 l (by omega) h (by omega) (fun k h1 h2 => by
            by_cases e : k = a
            · subst e; exact .inr (.inr (.inl c2.1))
            · by_cases e2 : k = a + 1
              · subst e2; exact .inr (.inr (.inr c2.2))
              · exact hb k h1 (by omega))
          exact ⟨this.1, this.2.1, by omega⟩
        · rw [if_neg c2] at h
          by_cases c3 : (tokAt s a before).kind = 0 ∨ (tokAt s a before).text.size = 0
          · rw [dif_pos c3] at h; cases h
          · rw [dif_neg c3] at h
            obtain ⟨t, ht⟩ : ∃ t, tokAt s a before = t := ⟨_, rfl⟩
            rw [ht] at h c3
            split at h
            · cases h
            · rename_i r hr
              obtain rfl := Except.ok.inj h
              have hk : t.kind ≠ 0 := fun e => c3 (.inl e)
              have hs : t.text.size ≠ 0 := fun e => c3 (.inr e)
              obtain ⟨q1, q2, q3, q4⟩ := tok_ok ha ht hk hs hr
              obtain ⟨i1, i2, i3⟩ := ih (a + t.text.size) t.kind (a + t.text.size) r (by omega) hr (Nat.le_refl _) (fun k h1 h2 => by omega)
              have e1 : t.at_.toNat = a := by omega
              have hok : tokenOkB t = true := by
                unfold stands at q4
                simp only [Bool.and_eq_true] at q4
                exact q4.1.1.1.1
              refine ⟨⟨by omega, hs, by omega, by rw [e1]; exact q3, hok, fun k h1 h2 => hb k h1 (by omega), by rw [e1]; exact i1⟩, ?_, by simp; omega⟩
              rw [tokensGo_cons, q4, i2]
              rfl
    · rw [lexGo, dif_neg ha] at h
      obtain rfl := Except.ok.inj h
      exact ⟨trivial, rfl, by simp⟩
theorem lex_fault (s : ByteArray) : ∀ (m a : Nat) (before : Int) (e : Nat), s.size - a ≤ m → lexGo s a before = .error e → e < s.size := by
  intro m
  induction m with
  | zero =>
    intro a before e hm h
    rw [lexGo, dif_neg (by omega)] at h
    cases h
  | succ m ih =>
    intro a before e hm h
    by_cases ha : a < s.size
    · rw [lexGo, dif_pos ha] at h
      split at h
      · exact ih _ _ _ (by omega) h
      · split at h
        · exact ih _ _ _ (by omega) h
        · split at h
          · obtain rfl := Except.error.inj h; exact ha
          · rename_i hn
            split at h
            · rename_i e' he
              obtain rfl := Except.error.inj h
              exact ih _ _ _ (by omega) he
            · cases h
    · rw [lexGo, dif_neg ha] at h
      cases h
end Go.Proofs.YtdajhcammnlonaaDoor
