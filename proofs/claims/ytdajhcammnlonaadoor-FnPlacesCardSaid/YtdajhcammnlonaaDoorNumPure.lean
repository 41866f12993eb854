/- Plain functions on numbers and bytes: fixed width, varints, hexadecimal digits. No program is in sight here. -/
import Derived.Test.YtdajhcammnlonaaDoorScanPure
namespace Go.Proofs.YtdajhcammnlonaaDoor
open Go.RowKit

/-- the last k bytes of a number, the most significant first -/
def fx : Nat → Nat → List UInt8
  | 0, _ => []
  | k + 1, n => fx k (n / 256) ++ [UInt8.ofNat (n % 256)]
theorem fx_front (k : Nat) : ∀ n, fx (k + 1) n = UInt8.ofNat (n / 256 ^ k % 256) :: fx k n := by
  induction k with
  | zero => intro n; simp [fx]
  | succ k ih =>
    intro n
    rw [show fx (k + 1 + 1) n = fx (k + 1) (n / 256) ++ [UInt8.ofNat (n % 256)] from rfl, ih, Nat.div_div_eq_div_mul, Nat.pow_succ, Nat.mul_comm (256 ^ k) 256]
    rfl
theorem fx_length (k : Nat) : ∀ n, (fx k n).length = k := by
  induction k with
  | zero => intro n; rfl
  | succ k ih => intro n; simp [fx, ih]
theorem fx_get (k : Nat) : ∀ n t, t < k → (fx k n)[t]? = some (UInt8.ofNat (n / 256 ^ (k - 1 - t) % 256)) := by
  induction k with
  | zero => intro n t h; omega
  | succ k ih =>
    intro n t h
    rw [fx_front]
    cases t with
    | zero => simp
    | succ t =>
      rw [List.getElem?_cons_succ, ih n t (by omega)]
      have e : k + 1 - 1 - (t + 1) = k - 1 - t := by omega
      rw [e]
def fixedOk (n width : Int) : Bool := inB width 1 7 && decide (0 ≤ n) && decide (n < 256 ^ width.toNat)
def fixedB (n width : Int) : ByteArray := if fixedOk n width then ⟨(fx width.toNat n.toNat).toArray⟩ else ⟨#[]⟩

/-- the number of bytes, the most significant first -/
def rdFix (n : Int) : List UInt8 → Int
  | [] => n
  | b :: r => rdFix (256 * n + b.toNat) r
theorem rdFix_snoc (n : Int) (l : List UInt8) (b : UInt8) : rdFix n (l ++ [b]) = 256 * rdFix n l + b.toNat := by
  induction l generalizing n with
  | nil => rfl
  | cons a l ih => simp only [List.cons_append, rdFix, ih]

/-- seven bits a byte, the least significant first -/
def vr (n : Nat) : List UInt8 := if n < 128 then [UInt8.ofNat n] else UInt8.ofNat (128 + n % 128) :: vr (n / 128)
termination_by n
decreasing_by omega
theorem vr_small {n : Nat} (h : n < 128) : vr n = [UInt8.ofNat n] := by rw [vr, if_pos h]
theorem vr_big {n : Nat} (h : ¬ n < 128) : vr n = UInt8.ofNat (128 + n % 128) :: vr (n / 128) := by rw [vr, if_neg h]
theorem vr_length (k : Nat) : ∀ n, n < 128 ^ (k + 1) → (vr n).length ≤ k + 1 := by
  induction k with
  | zero => intro n h; rw [vr_small (by simpa using h)]; simp
  | succ k ih =>
    intro n h
    by_cases hn : n < 128
    · rw [vr_small hn]; simp
    · rw [vr_big hn]
      have := ih (n / 128) (by rw [Nat.div_lt_iff_lt_mul (by omega)]; rw [Nat.pow_succ] at h; exact h)
      simp only [List.length_cons]
      omega
theorem vr_length7 (n : Nat) (h : n ≤ 562949953421311) : (vr n).length ≤ 7 :=
  vr_length 6 n (by have e : 128 ^ (6 + 1) = 562949953421312 := by decide
                    omega)
def varB (n : Int) : ByteArray := if inB n 0 562949953421311 then ⟨(vr n.toNat).toArray⟩ else ⟨#[]⟩

def hexDig (k : Nat) : UInt8 := if k < 10 then UInt8.ofNat (48 + k) else UInt8.ofNat (87 + k)
def hexL : List UInt8 → List UInt8
  | [] => []
  | b :: r => hexDig (b.toNat / 16) :: hexDig (b.toNat % 16) :: hexL r
theorem hexL_append (a b : List UInt8) : hexL (a ++ b) = hexL a ++ hexL b := by
  induction a with
  | nil => rfl
  | cons x a ih => simp [hexL, ih]
theorem hexL_length (a : List UInt8) : (hexL a).length = 2 * a.length := by
  induction a with
  | nil => rfl
  | cons x a ih => simp only [hexL, List.length_cons, ih]; omega
/-- the value of a hexadecimal digit, -1 if it is none -/
def unDigN (b : Nat) : Int := if 48 ≤ b ∧ b ≤ 57 then (b : Int) - 48 else if 97 ≤ b ∧ b ≤ 102 then (b : Int) - 87 else -1
def unhexL : List UInt8 → Option (List UInt8)
  | [] => some []
  | [_] => none
  | a :: b :: r => if unDigN a.toNat < 0 ∨ unDigN b.toNat < 0 then none else (unhexL r).map (UInt8.ofNat (16 * unDigN a.toNat + unDigN b.toNat).toNat :: ·)
theorem unhexL_odd : ∀ (n : Nat) (l : List UInt8), l.length ≤ n → l.length % 2 = 1 → unhexL l = none := by
  intro n
  induction n with
  | zero => intro l h h2; omega
  | succ n ih =>
    intro l h h2
    match l with
    | [] => simp at h2
    | [_] => rfl
    | a :: b :: r =>
      simp only [List.length_cons] at h h2
      rw [unhexL, ih r (by omega) (by omega)]
      simp
def unhexB (s : ByteArray) : ByteArray × Bool := match unhexL s.data.toList with | some l => (⟨l.toArray⟩, true) | none => (⟨#[]⟩, false)
theorem unDigN_le (b : Nat) : -1 ≤ unDigN b ∧ unDigN b ≤ 15 := by
  unfold unDigN
  split
  · omega
  · split <;> omega
/-- the number of the first bytes of a text, the most significant first -/
def rdPre (s : ByteArray) : Nat → Int
  | 0 => 0
  | j + 1 => 256 * rdPre s j + bAt s j
theorem rdPre_ge (s : ByteArray) (j : Nat) (h : j ≤ s.size) : 0 ≤ rdPre s j := by
  induction j with
  | zero => exact Int.le_refl _
  | succ j ih =>
    have := ih (by omega)
    have := bAt_nonneg (s := s) (k := j) (by omega)
    show 0 ≤ 256 * rdPre s j + bAt s j
    omega
theorem rdPre_lt (s : ByteArray) (j : Nat) (h : j ≤ s.size) : rdPre s j < 256 ^ j := by
  induction j with
  | zero => show (0 : Int) < 1; omega
  | succ j ih =>
    have := ih (by omega)
    have := bAt_lt s j
    show 256 * rdPre s j + bAt s j < 256 ^ (j + 1)
    rw [Int.pow_succ]
    omega
theorem pow256_le {j k : Nat} (h : j ≤ k) : (256 : Int) ^ j ≤ 256 ^ k := by
  have := Nat.pow_le_pow_right (n := 256) (by omega) h
  have e1 : ((256 ^ j : Nat) : Int) = (256 : Int) ^ j := by simp
  have e2 : ((256 ^ k : Nat) : Int) = (256 : Int) ^ k := by simp
  omega
theorem rdPre_bd (s : ByteArray) (j : Nat) (h : j ≤ s.size) (hj : j ≤ 6) : 0 ≤ rdPre s j ∧ rdPre s j ≤ 281474976710656 := by
  have h1 := rdPre_lt s j h
  have h2 := pow256_le hj
  have h3 : (256 : Int) ^ 6 = 281474976710656 := by decide
  exact ⟨rdPre_ge s j h, by omega⟩
def readFixedOk (s : ByteArray) (width : Int) : Bool := inB width 1 7 && decide (width ≤ s.size)
def readFixed (s : ByteArray) (width : Int) : Int := if readFixedOk s width then rdPre s width.toNat else 0
end Go.Proofs.YtdajhcammnlonaaDoor
