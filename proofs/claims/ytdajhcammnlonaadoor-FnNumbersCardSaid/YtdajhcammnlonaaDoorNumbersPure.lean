/- What is made of a number is read as it: plain facts. No program is in sight here. -/
import Derived.Test.YtdajhcammnlonaaDoorReadVarPure
namespace Go.Proofs.YtdajhcammnlonaaDoor
open Go.RowKit
set_option linter.unusedVariables false

theorem leVal_vr (n : Nat) : leVal (vr n) = n := by
  by_cases h : n < 128
  · rw [vr_small h]
    simp only [leVal, UInt8.toNat_ofNat']
    omega
  · rw [vr_big h]
    simp only [leVal, UInt8.toNat_ofNat']
    rw [leVal_vr (n / 128)]
    omega
termination_by n
decreasing_by omega
theorem proper_vr (n : Nat) : proper (vr n) = true := by
  rw [← vr_leVal, leVal_vr]
theorem vr_ne (n : Nat) : 1 ≤ (vr n).length := by
  by_cases h : n < 128
  · rw [vr_small h]; simp
  · rw [vr_big h]; simp
theorem rv_run {s : ByteArray} (j : Nat) (hj : j ≤ 7 ∧ j ≤ s.size) (hp : proper ((bytes s).take j) = true) : ∀ k, 1 ≤ k → k ≤ j → rv s k = ((leVal ((bytes s).take j) : Int), (j : Int)) := by
  intro k h1 hk
  by_cases e : k = j
  · subst e; exact rv_yes hj hp
  · rw [rv_no (by omega), rv_run j hj hp (k + 1) (by omega) (by omega)]
    intro hpk
    have hlen : ((bytes s).take j).length = j := by rw [List.length_take, bytes_length]; omega
    obtain ⟨m, rfl⟩ : ∃ m, k = m + 1 := ⟨k - 1, by omega⟩
    have hm : m < s.size := by omega
    rw [take_succ s m hm] at hpk
    have h2 := proper_last _ _ hpk
    have h3 := proper_init _ hp m (by omega) s[m] (by
      rw [List.getElem?_take_of_lt (by omega)]
      show s.data.toList[m]? = _
      rw [Array.getElem?_toList, Array.getElem?_eq_getElem (by simpa using hm)]
      rfl)
    omega
termination_by k => j - k
decreasing_by omega
theorem bytes_append (a b : ByteArray) : bytes (a ++ b) = bytes a ++ bytes b := by
  simp [bytes, ByteArray.data_append]
theorem readVar_var (n : Int) (h : inB n 0 562949953421311 = true) (t : ByteArray) : readVar (varB n ++ t) = (n, ((varB n).size : Int)) := by
  obtain ⟨h0, h1⟩ := inB_true.1 h
  have hv : bytes (varB n) = vr n.toNat := by simp [varB, h, bytes]
  have hs : (varB n).size = (vr n.toNat).length := by rw [← bytes_length, hv]
  have hl := vr_length7 n.toNat (by omega)
  have htk : (bytes (varB n ++ t)).take (vr n.toNat).length = vr n.toNat := by rw [bytes_append, hv]; simp
  unfold readVar
  rw [rv_run (vr n.toNat).length ⟨hl, by rw [ByteArray.size_append, hs]; omega⟩ (by rw [htk]; exact proper_vr _) 1 (by omega) (vr_ne _), htk, leVal_vr, hs]
  rw [Int.toNat_of_nonneg h0]
theorem varB_out (n : Int) (h : inB n 0 562949953421311 = false) : varB n = ⟨#[]⟩ := by simp [varB, h]
theorem varB_size (n : Int) (h : inB n 0 562949953421311 = true) : 1 ≤ (varB n).size := by
  have hv : bytes (varB n) = vr n.toNat := by simp [varB, h, bytes]
  rw [← bytes_length, hv]
  exact vr_ne _
/-- whatever is read as a varint is one -/
theorem readVar_sound (s : ByteArray) : readVar s = (0, 0) ∨ ∃ j : Nat, 1 ≤ j ∧ j ≤ s.size ∧ (readVar s).2 = j ∧ varB (readVar s).1 = ⟨((bytes s).take j).toArray⟩ := by
  have key : ∀ m k, 8 - k = m → 1 ≤ k → rv s k = (0, 0) ∨ ∃ j : Nat, 1 ≤ j ∧ j ≤ 7 ∧ j ≤ s.size ∧ rv s k = ((leVal ((bytes s).take j) : Int), (j : Int)) ∧ proper ((bytes s).take j) = true := by
    intro m
    induction m with
    | zero => intro k hk _; exact .inl (rv_out (by omega))
    | succ m ih =>
      intro k hk h1
      by_cases h : k ≤ 7 ∧ k ≤ s.size
      · by_cases hp : proper ((bytes s).take k) = true
        · exact .inr ⟨k, h1, h.1, h.2, rv_yes h hp, hp⟩
        · rw [rv_no h hp]; exact ih (k + 1) (by omega) (by omega)
      · exact .inl (rv_out h)
  rcases key 7 1 rfl (by omega) with h | ⟨j, h1, h2, h3, h4, h5⟩
  · exact .inl h
  · refine .inr ⟨j, h1, h3, by unfold readVar; rw [h4], ?_⟩
    unfold readVar
    rw [h4]
    have hlt := leVal_lt ((bytes s).take j)
    have hlen : ((bytes s).take j).length = j := by rw [List.length_take, bytes_length]; omega
    rw [hlen] at hlt
    have hp : 128 ^ j ≤ 128 ^ 7 := Nat.pow_le_pow_right (by omega) h2
    have e7 : (128 : Nat) ^ 7 = 562949953421312 := by decide
    have hin : inB ((leVal ((bytes s).take j) : Nat) : Int) 0 562949953421311 = true := inB_true.2 ⟨by omega, by omega⟩
    simp only [varB, hin, if_true, Int.toNat_natCast]
    rw [(vr_leVal _).2 h5]

theorem rdPre_fix (s : ByteArray) (n : Nat) (hn : n < 256 ^ 7) (hb : ∀ t : Nat, t < 7 → bAt s t = ((n / 256 ^ (6 - t) % 256 : Nat) : Int)) : ∀ j, j ≤ 7 → rdPre s j = ((n / 256 ^ (7 - j) : Nat) : Int) := by
  intro j
  induction j with
  | zero => intro _; rw [Nat.div_eq_of_lt hn]; rfl
  | succ j ih =>
    intro hj
    show 256 * rdPre s j + bAt s j = _
    rw [ih (by omega), hb j (by omega)]
    have e : 256 ^ (7 - j) = 256 ^ (6 - j) * 256 := by rw [← Nat.pow_succ]; congr 1; omega
    have e2 : 7 - (j + 1) = 6 - j := by omega
    rw [e, e2, ← Nat.div_div_eq_div_mul]
    omega
theorem readFixed_fixed (n : Int) (h : fixedOk n 7 = true) (t : ByteArray) : readFixedOk (fixedB n 7 ++ t) 7 = true ∧ readFixed (fixedB n 7 ++ t) 7 = n ∧ (fixedB n 7).size = 7 := by
  have hf : fixedB n 7 = ⟨(fx 7 n.toNat).toArray⟩ := by rw [fixedB, if_pos h]; rfl
  unfold fixedOk at h
  simp only [Bool.and_eq_true, decide_eq_true_eq] at h
  obtain ⟨⟨_, h0⟩, h1⟩ := h
  have h1' : n < 72057594037927936 := by
    have e : (256 : Int) ^ (7 : Int).toNat = 72057594037927936 := by decide
    omega
  have hs : (fixedB n 7).size = 7 := by rw [hf]; show (fx 7 n.toNat).toArray.size = 7; simp [fx_length]
  have hok : readFixedOk (fixedB n 7 ++ t) 7 = true := by
    unfold readFixedOk
    rw [ByteArray.size_append, hs]
    simp [inB]
    omega
  refine ⟨hok, ?_, hs⟩
  unfold readFixed
  rw [if_pos hok]
  show rdPre _ 7 = n
  rw [rdPre_fix _ n.toNat (by have e : (256 : Nat) ^ 7 = 72057594037927936 := by decide
                              omega) ?_ 7 (Nat.le_refl _)]
  · simp; omega
  · intro k hk
    rw [bAt_nat (by rw [ByteArray.size_append, hs]; omega)]
    have e1 : (fixedB n 7 ++ t)[k]'(by rw [ByteArray.size_append, hs]; omega) = (fixedB n 7)[k]'(by omega) := ByteArray.getElem_append_left (by omega)
    rw [e1]
    have e2 := fx_get 7 n.toNat k hk
    have e3 : (fixedB n 7)[k]'(by omega) = UInt8.ofNat (n.toNat / 256 ^ (7 - 1 - k) % 256) := by
      have e4 : ∀ (x : ByteArray) (hx : x = ⟨(fx 7 n.toNat).toArray⟩) (hk2 : k < x.size), x[k] = UInt8.ofNat (n.toNat / 256 ^ (7 - 1 - k) % 256) := by
        intro x hx hk2
        subst hx
        have h5 := (List.getElem?_eq_some_iff.1 e2).2
        exact h5
      exact e4 _ hf _
    rw [e3, UInt8.toNat_ofNat']
    have : 7 - 1 - k = 6 - k := by omega
    rw [this]
    omega
theorem fixedB_out (n : Int) (h : fixedOk n 7 = false) : fixedB n 7 = ⟨#[]⟩ := by rw [fixedB, if_neg (by rw [h]; simp)]
theorem fixedOk7 (n : Int) : fixedOk n 7 = decide (0 ≤ n ∧ n < 72057594037927936) := by
  have e : (256 : Int) ^ (7 : Int).toNat = 72057594037927936 := by decide
  unfold fixedOk
  rw [e, show inB 7 1 7 = true from rfl, Bool.true_and]
  simp
theorem unDig_hexDig : ∀ k : Nat, k < 16 → unDigN (hexDig k).toNat = k := by decide
theorem unhexL_hexL : ∀ l : List UInt8, unhexL (hexL l) = some l
  | [] => rfl
  | b :: r => by
    have hb := b.toNat_lt
    rw [hexL, unhexL, unDig_hexDig _ (by omega), unDig_hexDig _ (by omega), if_neg (by omega), unhexL_hexL r]
    simp only [Option.map_some, Option.some.injEq, List.cons.injEq, and_true]
    exact u8_ofNat (by omega)
theorem unhexB_hex (s : ByteArray) : unhexB ⟨(hexL s.data.toList).toArray⟩ = (s, true) := by
  unfold unhexB
  simp [unhexL_hexL]
end Go.Proofs.YtdajhcammnlonaaDoor
