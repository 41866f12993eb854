/- Plain facts on reading a varint. No program is in sight here. -/
import Derived.Test.YtdajhcammnlonaaDoorNumPure
namespace Go.Proofs.YtdajhcammnlonaaDoor
open Go.RowKit
set_option linter.unusedVariables false

/-- seven bits a byte, the least significant first -/
def leVal : List UInt8 → Nat
  | [] => 0
  | b :: r => b.toNat % 128 + 128 * leVal r
/-- is a text the varint of what it says? -/
def proper : List UInt8 → Bool
  | [] => false
  | [b] => decide (b.toNat < 128)
  | b :: c :: r => decide (128 ≤ b.toNat) && proper (c :: r) && decide (leVal (c :: r) ≠ 0)
theorem u8_ofNat {b : UInt8} {n : Nat} (h : n = b.toNat) : UInt8.ofNat n = b := by
  subst h; simp
theorem vr_leVal (l : List UInt8) : vr (leVal l) = l ↔ proper l = true := by
  induction l with
  | nil => simp [leVal, proper, vr_small]
  | cons b r ih =>
    cases r with
    | nil =>
      have h1 : leVal [b] = b.toNat % 128 := by simp [leVal]
      rw [h1, vr_small (by omega)]
      simp only [proper, decide_eq_true_eq, List.cons.injEq, and_true]
      constructor
      · intro h
        have := congrArg UInt8.toNat h
        rw [UInt8.toNat_ofNat'] at this
        omega
      · intro h
        exact u8_ofNat (by omega)
    | cons c r =>
      have h1 : leVal (b :: c :: r) = b.toNat % 128 + 128 * leVal (c :: r) := rfl
      have hb := b.toNat_lt
      rw [h1]
      simp only [proper, Bool.and_eq_true, decide_eq_true_eq]
      by_cases h0 : leVal (c :: r) = 0
      · rw [h0, vr_small (by omega)]
        simp
      · rw [vr_big (by omega)]
        have e1 : (b.toNat % 128 + 128 * leVal (c :: r)) / 128 = leVal (c :: r) := by omega
        have e2 : (b.toNat % 128 + 128 * leVal (c :: r)) % 128 = b.toNat % 128 := by omega
        rw [e1, e2]
        constructor
        · intro h
          simp only [List.cons.injEq] at h
          have h2 := congrArg UInt8.toNat h.1
          rw [UInt8.toNat_ofNat'] at h2
          exact ⟨⟨by omega, ih.1 h.2⟩, h0⟩
        · rintro ⟨⟨h2, h3⟩, _⟩
          rw [ih.2 h3, u8_ofNat (show 128 + b.toNat % 128 = b.toNat by omega)]
theorem leVal_append (a : List UInt8) (b : UInt8) : leVal (a ++ [b]) = leVal a + 128 ^ a.length * (b.toNat % 128) := by
  induction a with
  | nil => simp [leVal]
  | cons x a ih =>
    simp only [List.cons_append, leVal, ih, List.length_cons, Nat.pow_succ]
    rw [Nat.mul_add, Nat.add_assoc]
    congr 1
    rw [Nat.mul_comm (128 ^ a.length) 128, Nat.mul_assoc]
theorem leVal_lt (a : List UInt8) : leVal a < 128 ^ a.length := by
  induction a with
  | nil => simp [leVal]
  | cons x a ih =>
    simp only [leVal, List.length_cons, Nat.pow_succ]
    have : x.toNat % 128 < 128 := Nat.mod_lt _ (by omega)
    omega
/-- all but the last byte of a varint are 128 or above -/
theorem proper_init (l : List UInt8) (h : proper l = true) : ∀ i, i + 1 < l.length → ∀ b, l[i]? = some b → 128 ≤ b.toNat := by
  induction l with
  | nil => intro i hi; simp at hi
  | cons x r ih =>
    cases r with
    | nil => intro i hi; simp at hi
    | cons c r =>
      simp only [proper, Bool.and_eq_true, decide_eq_true_eq] at h
      intro i hi b hb
      cases i with
      | zero => simp at hb; subst hb; exact h.1.1
      | succ i =>
        rw [List.getElem?_cons_succ] at hb
        exact ih h.1.2 i (by simpa using hi) b hb
theorem proper_last (l : List UInt8) (b : UInt8) (h : proper (l ++ [b]) = true) : b.toNat < 128 ∧ (l = [] ∨ b.toNat ≠ 0) := by
  induction l with
  | nil => simp [proper] at h; exact ⟨h, .inl rfl⟩
  | cons x r ih =>
    cases r with
    | nil =>
      simp only [List.cons_append, List.nil_append, proper, Bool.and_eq_true, decide_eq_true_eq] at h
      refine ⟨h.1.2, .inr ?_⟩
      intro e
      exact h.2 (by simp [leVal, e])
    | cons c r =>
      simp only [List.cons_append, proper, Bool.and_eq_true, decide_eq_true_eq] at h
      have := ih h.1.2
      exact ⟨this.1, .inr (by simpa using this.2)⟩
theorem proper_of (l : List UInt8) (b : UInt8) (h : ∀ c ∈ l, 128 ≤ c.toNat) (hb : b.toNat < 128) (h0 : l = [] ∨ b.toNat ≠ 0) : proper (l ++ [b]) = true := by
  induction l with
  | nil => simpa [proper] using hb
  | cons x r ih =>
    have hx := h x (by simp)
    have h0' : b.toNat ≠ 0 := by rcases h0 with h0 | h0; · simp at h0
                                 · exact h0
    have h1 := ih (fun c hc => h c (by simp [hc])) (.inr h0')
    have hv : leVal (r ++ [b]) ≠ 0 := by
      rw [leVal_append]
      have : 0 < 128 ^ r.length := Nat.pow_pos (by omega)
      have h2 : 0 < 128 ^ r.length * (b.toNat % 128) := Nat.mul_pos this (by omega)
      omega
    cases hr : r ++ [b] with
    | nil => simp at hr
    | cons c r2 =>
      rw [List.cons_append, hr]
      rw [hr] at h1 hv
      simp only [proper, Bool.and_eq_true, decide_eq_true_eq]
      exact ⟨⟨hx, h1⟩, hv⟩

def bytes (s : ByteArray) : List UInt8 := s.data.toList
theorem bytes_length (s : ByteArray) : (bytes s).length = s.size := by simp [bytes]
/-- the varint that begins a text, of k bytes or more -/
def rv (s : ByteArray) (k : Nat) : Int × Int :=
  if k ≤ 7 ∧ k ≤ s.size then (if proper ((bytes s).take k) then (leVal ((bytes s).take k), k) else rv s (k + 1)) else (0, 0)
termination_by 8 - k
decreasing_by omega
def readVar (s : ByteArray) : Int × Int := rv s 1
theorem rv_out {s : ByteArray} {k : Nat} (h : ¬ (k ≤ 7 ∧ k ≤ s.size)) : rv s k = (0, 0) := by rw [rv, if_neg h]
theorem rv_yes {s : ByteArray} {k : Nat} (h : k ≤ 7 ∧ k ≤ s.size) (hp : proper ((bytes s).take k) = true) : rv s k = ((leVal ((bytes s).take k) : Int), (k : Int)) := by rw [rv, if_pos h, if_pos hp]
theorem rv_no {s : ByteArray} {k : Nat} (h : k ≤ 7 ∧ k ≤ s.size) (hp : ¬ proper ((bytes s).take k) = true) : rv s k = rv s (k + 1) := by
  rw [rv, if_pos h, if_neg hp]
theorem rv_dead (s : ByteArray) (i : Nat) (hi : i < s.size) (hb : (s[i]).toNat < 128) (k : Nat) (hk : i + 1 < k) : rv s k = (0, 0) := by
  rw [rv]
  split
  · rename_i h
    have hn : ¬ proper ((bytes s).take k) = true := by
      intro hp
      have h1 : ((bytes s).take k)[i]? = some s[i] := by
        rw [List.getElem?_take_of_lt (by omega)]
        show s.data.toList[i]? = _
        rw [Array.getElem?_toList, Array.getElem?_eq_getElem (by simpa using hi)]
        rfl
      have := proper_init _ hp i (by rw [List.length_take, bytes_length]; omega) _ h1
      omega
    rw [if_neg hn]
    exact rv_dead s i hi hb (k + 1) (by omega)
  · rfl
termination_by 8 - k
decreasing_by omega
theorem take_succ (s : ByteArray) (k : Nat) (h : k < s.size) : (bytes s).take (k + 1) = (bytes s).take k ++ [s[k]] := by
  rw [List.take_succ_eq_append_getElem (by rw [bytes_length]; exact h)]
  rfl
end Go.Proofs.YtdajhcammnlonaaDoor
