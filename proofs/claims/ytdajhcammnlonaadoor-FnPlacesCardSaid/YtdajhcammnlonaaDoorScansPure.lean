/- What is scanned out of a text is scanned out of the piece by itself. No program is in sight here. -/
import Derived.Test.YtdajhcammnlonaaDoorLexPure
namespace Go.Proofs.YtdajhcammnlonaaDoor
open Go.RowKit
set_option linter.unusedVariables false

theorem size_ext (s : ByteArray) (k e : Nat) (he : e ≤ s.size) : (s.extract k e).size = e - k := by
  rw [ByteArray.size_extract]; omega
theorem bAt_ext (s : ByteArray) (k e : Nat) (he : e ≤ s.size) (i : Int) (h0 : 0 ≤ i) : bAt (s.extract k e) i = if (k : Int) + i < e then bAt s (k + i) else -1 := by
  by_cases h : (k : Int) + i < e
  · rw [if_pos h, bAt_in h0 (by rw [size_ext s k e he]; omega), bAt_in (by omega) (by omega)]
    have e1 : ((k : Int) + i).toNat = k + i.toNat := by omega
    simp only [e1, ByteArray.getElem_extract]
  · rw [if_neg h, bAt_out]
    rw [size_ext s k e he]; omega
theorem runEnd_ext (p : Int → Bool) (s : ByteArray) (k e : Nat) (hp : p (-1) = false) (he : e ≤ s.size) (hk : k ≤ e) (i : Int) (h0 : 0 ≤ i) (hi : (k : Int) + i ≤ e) : runEnd p (s.extract k e) i = min (runEnd p s (k + i)) e - k := by
  by_cases h : (k : Int) + i < e
  · have hb := bAt_ext s k e he i h0
    rw [if_pos h] at hb
    by_cases hc : p (bAt s (k + i)) = true
    · rw [runEnd_step hp (by rw [hb]; exact hc), runEnd_step hp hc, runEnd_ext p s k e hp he hk (i + 1) (by omega) (by omega)]
      rw [show (k : Int) + (i + 1) = k + i + 1 from by omega]
    · have hc' : p (bAt s (k + i)) = false := by simpa using hc
      rw [runEnd_stop (by rw [hb]; exact hc'), runEnd_stop hc']
      omega
  · have := runEnd_ge p s (k + i)
    rw [runEnd_far _ _ _ (by rw [size_ext s k e he]; omega)]
    omega
termination_by (e - k - i).toNat
decreasing_by omega
theorem digitsEnd_ext (s : ByteArray) (k e : Nat) (he : e ≤ s.size) (hk : k ≤ e) (i : Int) (h0 : 0 ≤ i) (hi : (k : Int) + i ≤ e) : digitsEnd (s.extract k e) i = min (digitsEnd s (k + i)) e - k :=
  runEnd_ext isDigitB s k e isDigitB_m1 he hk i h0 hi
theorem bAt_pos {s : ByteArray} {k : Int} (h : bAt s k ≠ -1) : k < s.size := (bAt_range h).2
theorem numMant_ge {s : ByteArray} {k : Int} (h : numMant s k ≠ -1) : k < numMant s k := by
  have h1 := digitsEnd_ge s k
  have h2 := digitsEnd_ge s (digitsEnd s k + 1)
  unfold numMant at h ⊢
  split at h <;> rename_i hb
  · rw [if_pos hb]
    split at h
    · omega
    · rename_i hc; rw [if_neg hc]; omega
  · rw [if_neg hb]
    split at h
    · omega
    · rename_i hc; rw [if_neg hc]; omega
theorem numMant_le {s : ByteArray} {k : Int} (hk : k ≤ s.size) : numMant s k ≤ s.size := by
  have h1 := digitsEnd_le s k hk
  unfold numMant
  split
  · rename_i hb
    have h3 : digitsEnd s k < s.size := bAt_pos (by rw [hb]; omega)
    have h2 := digitsEnd_le s (digitsEnd s k + 1) (by omega)
    split <;> omega
  · split <;> omega
theorem expFirst_ge (s : ByteArray) (m : Int) : m + 1 ≤ expFirst s m ∧ expFirst s m ≤ m + 2 := by
  unfold expFirst; split <;> omega
theorem numExp_ge (s : ByteArray) (m : Int) : m ≤ numExp s m := by
  have := expFirst_ge s m
  unfold numExp
  split <;> omega
theorem numExp_le {s : ByteArray} {m : Int} (hm : m ≤ s.size) : numExp s m ≤ s.size := by
  unfold numExp
  split
  · rename_i h
    have h1 : m < s.size := bAt_pos (by rcases h.1 with h | h <;> rw [h] <;> omega)
    have h2 := expFirst_ge s m
    by_cases hf : expFirst s m ≤ s.size
    · exact digitsEnd_le s _ hf
    · have := runEnd_far isDigitB s (expFirst s m) (by omega)
      have h3 := h.2
      unfold digitsEnd at h3
      omega
  · exact hm
theorem numEnd_bounds {s : ByteArray} {k : Int} (h : 0 ≤ numEnd s k) : 0 ≤ k ∧ k < numEnd s k ∧ numEnd s k ≤ s.size := by
  unfold numEnd at h ⊢
  by_cases h0 : k < 0
  · rw [if_pos h0] at h; omega
  · rw [if_neg h0] at h ⊢
    by_cases hm : numMant s k = -1
    · rw [if_pos hm] at h; omega
    · rw [if_neg hm] at h ⊢
      have h1 := numMant_ge hm
      have h2 := numExp_ge s (numMant s k)
      have hk : k ≤ s.size := by
        by_cases hk : k ≤ s.size
        · exact hk
        · exfalso
          have e1 : digitsEnd s k = k := runEnd_far _ _ _ (by omega)
          apply hm
          unfold numMant
          rw [e1, if_neg (by rw [bAt_out (by omega)]; omega), if_pos rfl]
      exact ⟨by omega, by omega, numExp_le (numMant_le hk)⟩
theorem numMant_ext {s : ByteArray} {k e : Nat} (hk : k ≤ e) (he : e ≤ s.size) (hm : numMant s k ≠ -1) (hle : numMant s k ≤ e) : numMant (s.extract k e) 0 = numMant s k - k := by
  have h1 := digitsEnd_ge s k
  have hd : digitsEnd s k ≤ e ∧ (bAt s (digitsEnd s k) = 46 → digitsEnd s k < e ∧ digitsEnd s (digitsEnd s k + 1) ≤ e) := by
    have h2 := digitsEnd_ge s (digitsEnd s k + 1)
    unfold numMant at hm hle
    by_cases hb : bAt s (digitsEnd s k) = 46
    · rw [if_pos hb] at hm hle
      by_cases hc : digitsEnd s k = k ∧ digitsEnd s (digitsEnd s k + 1) = digitsEnd s k + 1
      · rw [if_pos hc] at hm; exact absurd rfl hm
      · rw [if_neg hc] at hle
        exact ⟨by omega, fun _ => ⟨by omega, hle⟩⟩
    · rw [if_neg hb] at hm hle
      by_cases hc : digitsEnd s k = k
      · rw [if_pos hc] at hm; exact absurd rfl hm
      · rw [if_neg hc] at hle
        exact ⟨hle, fun h => absurd h hb⟩
  have e0 : digitsEnd (s.extract k e) 0 = digitsEnd s k - k := by
    rw [digitsEnd_ext s k e he hk 0 (by omega) (by omega)]
    simp only [Int.add_zero]
    omega
  have eb : bAt (s.extract k e) (digitsEnd s k - k) = if digitsEnd s k < e then bAt s (digitsEnd s k) else -1 := by
    rw [bAt_ext s k e he _ (by omega)]
    rw [show (k : Int) + (digitsEnd s k - k) = digitsEnd s k from by omega]
  unfold numMant
  rw [e0, eb]
  by_cases hb : bAt s (digitsEnd s k) = 46
  · obtain ⟨h3, h4⟩ := hd.2 hb
    have e2 : digitsEnd (s.extract k e) (digitsEnd s k - k + 1) = digitsEnd s (digitsEnd s k + 1) - k := by
      rw [digitsEnd_ext s k e he hk _ (by omega) (by omega), show (k : Int) + (digitsEnd s k - k + 1) = digitsEnd s k + 1 from by omega]
      omega
    rw [if_pos h3, if_pos hb, if_pos hb, e2]
    unfold numMant at hm
    rw [if_pos hb] at hm
    by_cases hc : digitsEnd s k = k ∧ digitsEnd s (digitsEnd s k + 1) = digitsEnd s k + 1
    · rw [if_pos hc] at hm; exact absurd rfl hm
    · rw [if_neg hc, if_neg (by omega)]
  · have hb' : (if digitsEnd s k < (e : Int) then bAt s (digitsEnd s k) else -1) ≠ 46 := by
      split
      · exact hb
      · omega
    rw [if_neg hb', if_neg hb]
    unfold numMant at hm
    rw [if_neg hb] at hm
    by_cases hc : digitsEnd s k = k
    · rw [if_pos hc] at hm; exact absurd rfl hm
    · rw [if_neg hc, if_neg (by omega)]
/-- a number by itself ends at its end -/
theorem numEnd_ext {s : ByteArray} {k : Nat} {e : Nat} (h : numEnd s k = e) : numEnd (s.extract k e) 0 = (e - k : Nat) ∧ (s.extract k e).size = e - k := by
  obtain ⟨_, hke, hes⟩ := numEnd_bounds (s := s) (k := k) (by omega)
  rw [h] at hke hes
  have he : e ≤ s.size := by omega
  have hk : k ≤ e := by omega
  refine ⟨?_, size_ext s k e he⟩
  have hm : numMant s k ≠ -1 := by
    intro hm
    unfold numEnd at h
    rw [if_neg (by omega), if_pos hm] at h
    omega
  have hx : numExp s (numMant s k) = e := by
    unfold numEnd at h
    rwa [if_neg (by omega), if_neg hm] at h
  have hle : numMant s k ≤ e := by have := numExp_ge s (numMant s k); omega
  have hkm := numMant_ge hm
  have hmx := numMant_ext hk he hm hle
  unfold numEnd
  rw [if_neg (by omega), hmx, if_neg (by omega)]
  obtain ⟨m, hmm⟩ : ∃ m, numMant s k = m := ⟨_, rfl⟩
  rw [hmm] at hx hle hkm ⊢
  have eb : ∀ j : Int, 0 ≤ j → bAt (s.extract k e) (m - k + j) = if m + j < e then bAt s (m + j) else -1 := by
    intro j hj
    rw [bAt_ext s k e he _ (by omega), show (k : Int) + (m - k + j) = m + j from by omega]
  have eb0 := eb 0 (by omega)
  simp only [Int.add_zero] at eb0
  by_cases hme : m = e
  · unfold numExp
    rw [eb0, if_neg (by omega)]
    omega
  · have hlt : m < e := by omega
    have hf := expFirst_ge s m
    have hcond : (bAt s m = 101 ∨ bAt s m = 69) ∧ digitsEnd s (expFirst s m) > expFirst s m := by
      unfold numExp at hx
      by_cases hc : (bAt s m = 101 ∨ bAt s m = 69) ∧ digitsEnd s (expFirst s m) > expFirst s m
      · exact hc
      · rw [if_neg hc] at hx; omega
    have hde : digitsEnd s (expFirst s m) = e := by
      unfold numExp at hx
      rwa [if_pos hcond] at hx
    have hfe : expFirst s m < e := by omega
    have ef : expFirst (s.extract k e) (m - k) = expFirst s m - k := by
      have e1 := eb 1 (by omega)
      rw [if_pos (show m + 1 < (e : Int) by omega)] at e1
      unfold expFirst
      rw [e1]
      by_cases hc : bAt s (m + 1) = 43 ∨ bAt s (m + 1) = 45
      · rw [if_pos hc, if_pos hc]; omega
      · rw [if_neg hc, if_neg hc]; omega
    have ed : digitsEnd (s.extract k e) (expFirst s m - k) = e - k := by
      rw [digitsEnd_ext s k e he hk _ (by omega) (by omega), show (k : Int) + (expFirst s m - k) = expFirst s m from by omega, hde]
      omega
    unfold numExp
    rw [eb0, if_pos hlt, ef, ed, if_pos ⟨hcond.1, by omega⟩]
    omega
theorem quotedGo_bounds (s : ByteArray) (q : Int) (i : Nat) : quotedGo s q i = -1 ∨ ((i : Int) < quotedGo s q i ∧ quotedGo s q i ≤ s.size) := by
  rw [quotedGo]
  split
  · split
    · right; omega
    · split
      · exact .inl rfl
      · split
        · split
          · exact .inl rfl
          · rcases quotedGo_bounds s q (i + 2) with h | h
            · exact .inl h
            · right; omega
        · rcases quotedGo_bounds s q (i + 1) with h | h
          · exact .inl h
          · right; omega
  · exact .inl rfl
termination_by s.size - i
decreasing_by all_goals omega
theorem quotedGo_ext (s : ByteArray) (q : Int) (k e : Nat) (he : e ≤ s.size) (i : Nat) (h : quotedGo s q (k + i) = e) : quotedGo (s.extract k e) q i = (e : Int) - k := by
  have hb := quotedGo_bounds s q (k + i)
  rw [h] at hb
  have hlt : k + i < e := by omega
  have eb : ∀ j : Nat, bAt (s.extract k e) ((i + j : Nat) : Int) = if k + i + j < e then bAt s ((k + i + j : Nat) : Int) else -1 := by
    intro j
    rw [bAt_ext s k e he _ (by omega), show (k : Int) + ((i + j : Nat) : Int) = ((k + i + j : Nat) : Int) from by omega]
    by_cases hj : k + i + j < e
    · rw [if_pos (by omega), if_pos hj]
    · rw [if_neg (by omega), if_neg hj]
  have eb0 := eb 0
  have eb1 := eb 1
  simp only [Nat.add_zero] at eb0
  rw [if_pos hlt] at eb0
  rw [quotedGo] at h ⊢
  rw [size_ext s k e he, if_pos (by omega), eb0]
  rw [if_pos (by omega)] at h
  by_cases c1 : bAt s ((k + i : Nat) : Int) = q
  · rw [if_pos c1] at h ⊢; omega
  · rw [if_neg c1] at h ⊢
    by_cases c2 : bAt s ((k + i : Nat) : Int) = 10
    · rw [if_pos c2] at h; omega
    · rw [if_neg c2] at h ⊢
      by_cases c3 : bAt s ((k + i : Nat) : Int) = 92
      · rw [if_pos c3] at h ⊢
        by_cases c4 : bAt s (((k + i : Nat) : Int) + 1) = 10
        · rw [if_pos c4] at h; omega
        · rw [if_neg c4] at h
          have hb2 := quotedGo_bounds s q (k + i + 2)
          rw [h] at hb2
          have e5 : bAt (s.extract k e) ((i : Int) + 1) ≠ 10 := by
            rw [show (i : Int) + 1 = ((i + 1 : Nat) : Int) from by omega, eb1, if_pos (by omega)]
            rw [show ((k + i + 1 : Nat) : Int) = ((k + i : Nat) : Int) + 1 from by omega]
            exact c4
          rw [if_neg e5]
          exact quotedGo_ext s q k e he (i + 2) (by rw [← h]; rfl)
      · rw [if_neg c3] at h ⊢
        exact quotedGo_ext s q k e he (i + 1) (by rw [← h]; rfl)
termination_by s.size - (k + i)
decreasing_by all_goals omega
theorem quoted_bounds {s : ByteArray} {k q : Int} (hq : q ≠ -1) (h : 0 ≤ quoted s k q) : 0 ≤ k ∧ k + 1 < quoted s k q ∧ quoted s k q ≤ s.size := by
  unfold quoted at h ⊢
  by_cases hc : bAt s k = q
  · rw [if_pos hc] at h ⊢
    have hr := bAt_range (s := s) (k := k) (by rw [hc]; exact hq)
    rcases quotedGo_bounds s q (k + 1).toNat with h1 | h1 <;> omega
  · rw [if_neg hc] at h; omega
theorem quoted_ext {s : ByteArray} {k e : Nat} {q : Int} (hq : q ≠ -1) (h : quoted s k q = e) : quoted (s.extract k e) 0 q = (e - k : Nat) ∧ (s.extract k e).size = e - k := by
  obtain ⟨_, h1, h2⟩ := quoted_bounds hq (by omega : 0 ≤ quoted s k q)
  rw [h] at h1 h2
  have he : e ≤ s.size := by omega
  refine ⟨?_, size_ext s k e he⟩
  unfold quoted at h ⊢
  have hc : bAt s k = q := by
    by_cases hc : bAt s k = q
    · exact hc
    · rw [if_neg hc] at h; omega
  rw [if_pos hc] at h
  rw [bAt_ext s k e he 0 (by omega)]
  simp only [Int.add_zero]
  rw [if_pos (show (k : Int) < e by omega), if_pos hc]
  have := quotedGo_ext s q k e he 1 (by rw [← h]; congr 1)
  rw [show ((0 : Int) + 1).toNat = 1 from rfl, this]
  omega
end Go.Proofs.YtdajhcammnlonaaDoor
