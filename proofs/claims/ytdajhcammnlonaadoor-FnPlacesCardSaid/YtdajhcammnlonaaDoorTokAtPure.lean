/- The token at a place, case by case. No program is in sight here. -/
import Derived.Test.YtdajhcammnlonaaDoorRelexTwo
import Derived.Lib.Bytealg
namespace Go.Proofs.YtdajhcammnlonaaDoor
open Go.RowKit
open Go.Lib (indexByte firstIdx_eq)
set_option linter.unusedVariables false

theorem indexByte_ge : ∀ (l : List UInt8) (c : UInt8), -1 ≤ indexByte l c ∧ indexByte l c < (l.length : Int)
  | [], _ => by simp [indexByte]
  | b :: l, c => by
    have := indexByte_ge l c
    unfold indexByte
    split
    · simp
    · split
      · simp only [List.length_cons]; omega
      · simp only [List.length_cons]; omega
theorem line_ixL {s : ByteArray} : ∀ (x : List UInt8) (a : Nat), s.data.toList.drop a = x → a ≤ s.size → lineEnd s a = if indexByte x 10 < 0 then ((a + x.length : Nat) : Int) else (a : Int) + indexByte x 10 := by
  have hsz : s.data.toList.length = s.size := by simp
  intro x
  induction x with
  | nil =>
    intro a hd ha
    have := List.drop_eq_nil_iff.1 hd
    unfold lineEnd
    rw [runEnd_far _ s a (by omega)]
    rw [if_pos (by decide)]
    rfl
  | cons b r ih =>
    intro a hd ha
    have hb : bAt s a = (b.toNat : Int) := bAt_drop hd
    have hl : a + 1 ≤ s.size := by
      have h1 := congrArg List.length hd
      simp at h1
      omega
    have h1 : s.data.toList.drop (a + 1) = r := drop_more (x := [b]) (by simpa using hd)
    have h2 := ih (a + 1) h1 hl
    by_cases c : b = 10
    · subst c
      have e : indexByte (10 :: r) 10 = 0 := rfl
      rw [e]
      unfold lineEnd
      rw [runEnd_stop (by rw [hb]; decide)]
      simp
    · have hne : ((b.toNat : Int) != 10) = true := by
        rw [bne_iff_ne]
        intro e
        exact c (UInt8.toNat.inj (by show b.toNat = 10; omega))
      have hbc : (b == 10) = false := by simpa using c
      have e : indexByte (b :: r) 10 = if indexByte r 10 == -1 then -1 else indexByte r 10 + 1 := by
        rw [indexByte, if_neg (by rw [hbc]; decide)]
      have hg := indexByte_ge r 10
      have h3 : lineEnd s a = lineEnd s ((a + 1 : Nat) : Int) := by
        unfold lineEnd
        rw [runEnd, dif_pos ⟨by omega, by rw [hb]; exact hne⟩]
        rfl
      rw [h3, h2, e]
      by_cases c1 : indexByte r 10 = -1
      · rw [c1]; simp; omega
      · have c2 : (indexByte r 10 == -1) = false := by simpa using c1
        rw [c2, if_neg (by omega)]
        simp only [Bool.false_eq_true, if_false]
        rw [if_neg (by omega)]
        omega
theorem line_ix {s : ByteArray} {a : Nat} (ha : a ≤ s.size) : lineEnd s a = if firstIdx (s.extract a s.size) 10 < 0 then (s.size : Int) else (a : Int) + firstIdx (s.extract a s.size) 10 := by
  have hsz : s.data.toList.length = s.size := by simp
  have e : (s.extract a s.size).data.toList = s.data.toList.drop a := by
    rw [extract_bytes s a _ (Nat.le_refl _), List.take_of_length_le (by rw [List.length_drop]; omega)]
  rw [firstIdx_eq, e, line_ixL _ a rfl ha, List.length_drop, hsz, show a + (s.size - a) = s.size by omega]
theorem firstIdx_ge (s : ByteArray) : -1 ≤ firstIdx s 10 ∧ firstIdx s 10 < s.size := by
  have hsz : s.data.toList.length = s.size := by simp
  rw [firstIdx_eq, ← hsz]
  exact indexByte_ge _ _
theorem lineEnd_le {s : ByteArray} {a : Nat} (ha : a ≤ s.size) : (a : Int) ≤ lineEnd s a ∧ lineEnd s a ≤ s.size := ⟨runEnd_ge _ _ _, runEnd_le _ _ _ (by omega)⟩
section
variable {s : ByteArray} {a : Nat} {before : Int}
theorem tokAt_line (h : bAt s a = 10) : tokAt s a before = ⟨1, s.extract a (a + 1), a⟩ := by unfold tokAt; rw [if_pos h]
theorem tokAt_note (h : bAt s a = 35) : tokAt s a before = finTok s 2 a (lineEnd s a) := by unfold tokAt; rw [if_neg (by omega), if_pos h]
theorem tokAt_num (h1 : bAt s a ≠ 10) (h2 : bAt s a ≠ 35) (h : (isDigitB (bAt s a) || bAt s a == 46) = true) : tokAt s a before = finTok s 3 a (numEnd s a) := by
  unfold tokAt; rw [if_neg h1, if_neg h2, if_pos h]
theorem tokAt_str (h : bAt s a = 34) : tokAt s a before = finTok s 4 a (strEnd s a) := by
  unfold tokAt; rw [if_neg (by omega), if_neg (by omega), if_neg (by rw [h]; decide), if_pos h]
theorem tokAt_ere (h : bAt s a = 47) (h2 : endsB before = false) : tokAt s a before = finTok s 5 a (ereEnd s a) := by
  unfold tokAt; rw [if_neg (by omega), if_neg (by omega), if_neg (by rw [h]; decide), if_neg (by omega), if_pos (by rw [h, h2]; rfl)]
theorem tokAt_word (h : isLetterB (bAt s a) = true) : tokAt s a before = if nameShape (s.extract a (nameEnd s a).toNat) then ⟨wordKind s (s.extract a (nameEnd s a).toNat) (nameEnd s a), s.extract a (nameEnd s a).toNat, a⟩ else noTok := by
  obtain ⟨_, l1, l2, l3, l4, l5, l6, _⟩ := letter_facts h
  unfold tokAt
  rw [if_neg l2, if_neg l3, if_neg (by rw [l1]; simp; omega), if_neg l5, if_neg (by simp; omega), if_pos h]
theorem tokAt_sign (h1 : bAt s a ≠ 10) (h2 : bAt s a ≠ 35) (h3 : (isDigitB (bAt s a) || bAt s a == 46) = false) (h4 : bAt s a ≠ 34) (h5 : (bAt s a == 47 && !endsB before) = false) (h6 : isLetterB (bAt s a) = false) :
    tokAt s a before = if (opAt s a).2 = 0 then noTok else finTok s (opAt s a).1 a (a + (opAt s a).2 : Nat) := by
  unfold tokAt
  rw [if_neg h1, if_neg h2, if_neg (by rw [h3]; decide), if_neg h4, if_neg (by rw [h5]; decide), if_neg (by rw [h6]; decide)]
theorem finTok_no (s : ByteArray) (k : Int) (a : Nat) {e : Int} (h : e < 0) : finTok s k a e = noTok := by unfold finTok; rw [if_pos h]
/-- a sign's kind is none where its length is none -/
theorem opAt_kind (s : ByteArray) (a : Nat) : ((opAt s a).2 = 0 → (opAt s a).1 = 0) ∧ ((opAt s a).2 ≠ 0 → 30 ≤ (opAt s a).1 ∧ (opAt s a).1 ≤ 68 ∧ a + (opAt s a).2 ≤ s.size) := by
  constructor
  · intro h
    unfold opAt at h ⊢
    split at h
    · rename_i hc
      rw [if_pos hc]
      rcases opGo_inv (s.data.toList.drop ((a : Int).toNat)) signL 0 (0, 0) with e | ⟨j, g, hg, hp, e⟩
      · rw [e]
      · rw [e] at h
        exact absurd (List.eq_nil_of_length_eq_zero h) (sign_head j g hg).1
    · rename_i hc
      rw [if_neg hc]
  · intro h
    obtain ⟨j, g, hg, hp, e⟩ := opAt_inv h
    have hj := (List.getElem?_eq_some_iff.1 hg).1
    have hl := prefix_len hp
    have hsz : s.data.toList.length = s.size := by simp
    rw [signL_len] at hj
    rw [List.length_drop, hsz] at hl
    rw [e]
    have hne : g.length ≠ 0 := fun c => (sign_head j g hg).1 (List.eq_nil_of_length_eq_zero c)
    show (30 : Int) ≤ ((30 + j : Nat) : Int) ∧ _ ∧ a + g.length ≤ s.size
    refine ⟨by omega, ?_, by omega⟩
    show ((30 + j : Nat) : Int) ≤ 68
    omega
end
theorem nameEnd_bounds {s : ByteArray} {a : Nat} (h : isLetterB (bAt s a) = true) : ∃ e : Nat, nameEnd s a = e ∧ a < e ∧ e ≤ s.size := by
  have hr := bAt_range (s := s) (k := a) (fun e => by rw [e] at h; exact absurd h (by decide))
  have hw := (letter_facts h).1
  have hn : nameEnd s a = runEnd isWordB s a := by unfold nameEnd; rw [if_pos h]
  have h1 := runEnd_lt isWordB s a ⟨hr, hw⟩
  have h2 := runEnd_le isWordB s a (by omega)
  refine ⟨(runEnd isWordB s a).toNat, by rw [hn]; omega, by omega, by omega⟩
theorem strEnd_bounds {s : ByteArray} {k : Int} (h : 0 ≤ strEnd s k) : k + 1 < strEnd s k ∧ strEnd s k ≤ s.size := by
  have := quoted_bounds (s := s) (k := k) (q := 34) (by decide) h
  exact this.2
theorem ereEnd_bounds {s : ByteArray} {k : Int} (h : 0 ≤ ereEnd s k) : k + 1 < ereEnd s k ∧ ereEnd s k ≤ s.size := by
  unfold ereEnd at h ⊢
  by_cases c : quoted s k 47 = k + 2
  · rw [if_pos c] at h; omega
  · rw [if_neg c] at h ⊢
    exact (quoted_bounds (s := s) (k := k) (q := 47) (by decide) h).2
/-- a token is of no kind or has a text that lies in the whole one -/
theorem tokAt_size {s : ByteArray} {a : Nat} {before : Int} (ha : a < s.size) (h : (tokAt s a before).kind ≠ 0) : 0 < (tokAt s a before).text.size ∧ a + (tokAt s a before).text.size ≤ s.size ∧ (tokAt s a before).kind ≤ 68 ∧ 0 < (tokAt s a before).kind ∧ (tokAt s a before).at_ = a := by
  have fin : ∀ (k e : Int), 0 < k → k ≤ 68 → (0 ≤ e → (a : Int) < e ∧ e ≤ s.size) → (finTok s k a e).kind ≠ 0 → 0 < (finTok s k a e).text.size ∧ a + (finTok s k a e).text.size ≤ s.size ∧ (finTok s k a e).kind ≤ 68 ∧ 0 < (finTok s k a e).kind ∧ (finTok s k a e).at_ = a := by
    intro k e hk hk2 hb hn
    by_cases c : e < 0
    · rw [finTok_no s k a c] at hn; exact absurd rfl hn
    · obtain ⟨n, rfl⟩ := Int.eq_ofNat_of_zero_le (show 0 ≤ e by omega)
      obtain ⟨b1, b2⟩ := hb (by omega)
      rw [finTok_nat]
      show 0 < (s.extract a n).size ∧ a + (s.extract a n).size ≤ s.size ∧ k ≤ 68 ∧ 0 < k ∧ _
      rw [size_ext s a n (by omega)]
      exact ⟨by omega, by omega, hk2, hk, rfl⟩
  by_cases h1 : bAt s a = 10
  · rw [tokAt_line h1]
    show 0 < (s.extract a (a + 1)).size ∧ a + (s.extract a (a + 1)).size ≤ s.size ∧ (1 : Int) ≤ 68 ∧ (0 : Int) < 1 ∧ _
    rw [size_ext s a (a + 1) (by omega)]
    exact ⟨by omega, by omega, by omega, by omega, rfl⟩
  by_cases h2 : bAt s a = 35
  · rw [tokAt_note h2] at h ⊢
    refine fin 2 _ (by omega) (by omega) (fun _ => ⟨?_, (lineEnd_le (Nat.le_of_lt ha)).2⟩) h
    exact runEnd_lt _ s a ⟨by omega, by rw [h2]; decide⟩
  by_cases h3 : (isDigitB (bAt s a) || bAt s a == 46) = true
  · rw [tokAt_num h1 h2 h3] at h ⊢
    exact fin 3 _ (by omega) (by omega) (fun h0 => (numEnd_bounds h0).2) h
  by_cases h4 : bAt s a = 34
  · rw [tokAt_str h4] at h ⊢
    exact fin 4 _ (by omega) (by omega) (fun h0 => ⟨by have := (strEnd_bounds h0).1; omega, (strEnd_bounds h0).2⟩) h
  by_cases h5 : (bAt s a == 47 && !endsB before) = true
  · simp only [Bool.and_eq_true, beq_iff_eq, Bool.not_eq_true'] at h5
    rw [tokAt_ere h5.1 h5.2] at h ⊢
    exact fin 5 _ (by omega) (by omega) (fun h0 => ⟨by have := (ereEnd_bounds h0).1; omega, (ereEnd_bounds h0).2⟩) h
  by_cases h6 : isLetterB (bAt s a) = true
  · obtain ⟨e, he, e1, e2⟩ := nameEnd_bounds h6
    rw [tokAt_word h6, he, Int.toNat_natCast] at h ⊢
    by_cases hs : nameShape (s.extract a e) = true
    · rw [if_pos hs]
      show 0 < (s.extract a e).size ∧ a + (s.extract a e).size ≤ s.size ∧ wordKind s (s.extract a e) e ≤ 68 ∧ 0 < wordKind s (s.extract a e) e ∧ _
      rw [size_ext s a e e2]
      have hk := keywordOf_range (s.extract a e)
      have hw : 0 < wordKind s (s.extract a e) e ∧ wordKind s (s.extract a e) e ≤ 68 := by
        unfold wordKind
        by_cases c : keywordOf (s.extract a e) = 0
        · rw [if_neg (by simp [c])]
          by_cases c2 : isBuiltinB (s.extract a e) = true
          · rw [if_pos c2]; omega
          · rw [if_neg c2]
            by_cases c3 : (bAt s e == 40) = true
            · rw [if_pos c3]; omega
            · rw [if_neg c3]; omega
        · rw [if_pos (by simpa using c)]; omega
      exact ⟨by omega, by omega, hw.2, hw.1, rfl⟩
    · rw [if_neg hs] at h; exact absurd rfl h
  · rw [tokAt_sign h1 h2 (by simpa using h3) h4 (by simpa using h5) (by simpa using h6)] at h ⊢
    by_cases c : (opAt s a).2 = 0
    · rw [if_pos c] at h; exact absurd rfl h
    · rw [if_neg c] at h ⊢
      obtain ⟨k1, k2, k3⟩ := (opAt_kind s a).2 c
      exact fin _ _ (by omega) k2 (fun _ => ⟨by omega, by omega⟩) h
end Go.Proofs.YtdajhcammnlonaaDoor
