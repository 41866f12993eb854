/- Decimal digits, written from the last one on; a slice of one byte as a text. -/
import Derived.Test.YtdajhcammnlonaaDoorChars
import Derived.Test.YtdajhcammnlonaaDoorMem
import Derived.Laws.BytesArg
import Derived.Lib.ItoaNum
namespace Go.Proofs.YtdajhcammnlonaaDoor
open Go.RowKit
set_option linter.unusedVariables false

def decGo (n : Nat) (acc : List UInt8) : List UInt8 := if h : n = 0 then acc else decGo (n / 10) (UInt8.ofNat (48 + n % 10) :: acc)
termination_by n
decreasing_by omega
theorem decGo_zero (acc : List UInt8) : decGo 0 acc = acc := by rw [decGo, dif_pos rfl]
theorem decGo_step {n : Nat} (h : n ≠ 0) (acc : List UInt8) : decGo n acc = decGo (n / 10) (UInt8.ofNat (48 + n % 10) :: acc) := by rw [decGo, dif_neg h]
theorem decGo_len : ∀ (k n : Nat) (acc : List UInt8), n < 10 ^ k → (decGo n acc).length ≤ acc.length + k
  | 0, n, acc, h => by obtain rfl : n = 0 := by simpa using h
                       rw [decGo_zero]; omega
  | k + 1, n, acc, h => by
    by_cases c : n = 0
    · subst c; rw [decGo_zero]; omega
    · rw [decGo_step c]
      have := decGo_len k (n / 10) (UInt8.ofNat (48 + n % 10) :: acc) (by rw [Nat.pow_succ] at h; omega)
      simp only [List.length_cons] at this
      omega
theorem decGo_ge (n : Nat) (acc : List UInt8) : acc.length ≤ (decGo n acc).length := by
  rw [decGo]
  split
  · omega
  · have := decGo_ge (n / 10) (UInt8.ofNat (48 + n % 10) :: acc)
    simp only [List.length_cons] at this
    omega
termination_by n
decreasing_by omega
theorem decGo_digits : ∀ (n : Nat) (acc : List UInt8), decGo n acc = (if n = 0 then [] else Lib.decDigits n) ++ acc := by
  intro n
  induction n using Nat.strongRecOn with
  | _ n ih =>
    intro acc
    by_cases h0 : n = 0
    · subst h0; rw [decGo_zero]; rfl
    · rw [decGo_step h0, ih (n / 10) (by omega), if_neg h0]
      by_cases h : n < 10
      · have e : n / 10 = 0 := by omega
        have e2 : n % 10 = n := by omega
        rw [e, if_pos rfl, e2, Lib.decDigits, dif_pos h]
        rfl
      · rw [if_neg (by omega)]
        conv => rhs; rw [Lib.decDigits, dif_neg h]
        simp
theorem dig_cons (q : Nat) (l : List UInt8) : strOfNums [(48 + (q : Int) % 10)] ++ (⟨l.toArray⟩ : ByteArray) = ⟨(UInt8.ofNat (48 + q % 10) :: l).toArray⟩ := by
  have e : (48 + (q : Int) % 10).toNat = 48 + q % 10 := by omega
  simp [strOfNums, e, ByteArray.ext_iff]
theorem conv_byte (W : World) (z : Int) : (convert 22 9 (.slice (some ⟨W.heap.size, 0, none⟩) 1 1)).run Tryd.prog (W.alloc (.cells #[.int .u8 z] 5)) = .ok (.string (strOfNums [z])) (W.alloc (.cells #[.int .u8 z] 5)) := by
  refine run_convert_bytes_arg _ 22 5 Tryd.underlying22 Tryd.underlying5 _ 0 1 1 [z] rfl ?_ 9 Tryd.underlying9
  intro i hi
  have hi0 : i = 0 := by omega
  subst hi0
  rw [World.cell?_alloc_new]
  rfl
theorem dig_one (r : Nat) (l : List UInt8) : strOfNums [(48 + (r : Int))] ++ (⟨l.toArray⟩ : ByteArray) = ⟨(UInt8.ofNat (48 + r) :: l).toArray⟩ := by
  have e : (48 + (r : Int)).toNat = 48 + r := by omega
  simp [strOfNums, e, ByteArray.ext_iff]
end Go.Proofs.YtdajhcammnlonaaDoor
