/- Plain functions on texts: the byte at a place, the end of a run, the end of a number, of a quoted text, of a word. No program is in sight here. -/
import Derived.Test.YtdajhcammnlonaaDoorPure
namespace Go.Proofs.YtdajhcammnlonaaDoor
open Go.RowKit

/-- the byte at a place, -1 if there is none -/
def bAt (s : ByteArray) (k : Int) : Int := if h : 0 ≤ k ∧ k < s.size then ((s[k.toNat]'(by omega)).toNat : Int) else -1
theorem bAt_in {s : ByteArray} {k : Int} (h0 : 0 ≤ k) (h1 : k < s.size) : bAt s k = ((s[k.toNat]'(by omega)).toNat : Int) := by
  unfold bAt; rw [dif_pos ⟨h0, h1⟩]
theorem bAt_nat {s : ByteArray} {k : Nat} (h : k < s.size) : bAt s k = (s[k].toNat : Int) := by
  rw [bAt_in (by omega) (by omega)]; rfl
theorem bAt_out {s : ByteArray} {k : Int} (h : ¬ (0 ≤ k ∧ k < s.size)) : bAt s k = -1 := by
  unfold bAt; rw [dif_neg h]
theorem bAt_lt (s : ByteArray) (k : Int) : bAt s k < 256 := by
  by_cases h : 0 ≤ k ∧ k < s.size
  · rw [bAt_in h.1 h.2]; have := (s[k.toNat]'(by omega)).toNat_lt; omega
  · rw [bAt_out h]; omega
theorem bAt_ge (s : ByteArray) (k : Int) : -1 ≤ bAt s k := by
  by_cases h : 0 ≤ k ∧ k < s.size
  · rw [bAt_in h.1 h.2]; omega
  · rw [bAt_out h]; omega
theorem bAt_range {s : ByteArray} {k : Int} (h : bAt s k ≠ -1) : 0 ≤ k ∧ k < s.size := by
  by_cases g : 0 ≤ k ∧ k < s.size
  · exact g
  · exact absurd (bAt_out g) h
theorem bAt_nonneg {s : ByteArray} {k : Int} (h : 0 ≤ k ∧ k < s.size) : 0 ≤ bAt s k := by
  rw [bAt_in h.1 h.2]; omega

/-- the end of the run of bytes with p from a place on -/
def runEnd (p : Int → Bool) (s : ByteArray) (k : Int) : Int :=
  if h : (0 ≤ k ∧ k < s.size) ∧ p (bAt s k) = true then runEnd p s (k + 1) else k
termination_by (s.size - k).toNat
decreasing_by omega
theorem runEnd_step {p : Int → Bool} {s : ByteArray} {k : Int} (hp : p (-1) = false) (h : p (bAt s k) = true) : runEnd p s k = runEnd p s (k + 1) := by
  have hr : 0 ≤ k ∧ k < s.size := bAt_range (fun e => by rw [e, hp] at h; cases h)
  rw [runEnd, dif_pos ⟨hr, h⟩]
theorem runEnd_stop {p : Int → Bool} {s : ByteArray} {k : Int} (h : p (bAt s k) = false) : runEnd p s k = k := by
  rw [runEnd, dif_neg (fun g => by rw [g.2] at h; cases h)]
theorem runEnd_ge (p : Int → Bool) (s : ByteArray) (k : Int) : k ≤ runEnd p s k := by
  rw [runEnd]
  split
  · have := runEnd_ge p s (k + 1); omega
  · omega
termination_by (s.size - k).toNat
decreasing_by omega
theorem runEnd_le (p : Int → Bool) (s : ByteArray) (k : Int) (hk : k ≤ s.size) : runEnd p s k ≤ s.size := by
  rw [runEnd]
  split
  · rename_i h; exact runEnd_le p s (k + 1) (by omega)
  · omega
termination_by (s.size - k).toNat
decreasing_by omega
theorem runEnd_far (p : Int → Bool) (s : ByteArray) (k : Int) (hk : (s.size : Int) ≤ k) : runEnd p s k = k := by
  rw [runEnd, dif_neg (fun h => by omega)]

theorem isDigitB_m1 : isDigitB (-1) = false := by decide
theorem isWordB_m1 : isWordB (-1) = false := by decide
theorem isLetterB_m1 : isLetterB (-1) = false := by decide

def digitsEnd (s : ByteArray) (k : Int) : Int := runEnd isDigitB s k

/-- the end of a number's digits and point, -1 if there is none -/
def numMant (s : ByteArray) (k : Int) : Int :=
  if bAt s (digitsEnd s k) = 46 then
    (if digitsEnd s k = k ∧ digitsEnd s (digitsEnd s k + 1) = digitsEnd s k + 1 then -1 else digitsEnd s (digitsEnd s k + 1))
  else if digitsEnd s k = k then -1 else digitsEnd s k
/-- the first digit of an exponent's number behind its letter -/
def expFirst (s : ByteArray) (e : Int) : Int := if bAt s (e + 1) = 43 ∨ bAt s (e + 1) = 45 then e + 2 else e + 1
/-- the end of a number whose digits and point end at e -/
def numExp (s : ByteArray) (e : Int) : Int :=
  if (bAt s e = 101 ∨ bAt s e = 69) ∧ digitsEnd s (expFirst s e) > expFirst s e then digitsEnd s (expFirst s e) else e
def numEnd (s : ByteArray) (k : Int) : Int :=
  if k < 0 then -1 else if numMant s k = -1 then -1 else numExp s (numMant s k)

theorem numExp_eq {s : ByteArray} {m bm c d1 d2 : Int} (h0 : bAt s m = bm) (h1 : bAt s (m + 1) = c) (h2 : digitsEnd s (m + 1) = d1) (h3 : digitsEnd s (m + 1 + 1) = d2) :
    numExp s m = if (bm = 101 ∨ bm = 69) ∧ (if c = 43 ∨ c = 45 then d2 > m + 1 + 1 else d1 > m + 1) then (if c = 43 ∨ c = 45 then d2 else d1) else m := by
  have e2 : m + 2 = m + 1 + 1 := by omega
  unfold numExp expFirst
  rw [h0, h1]
  by_cases hc : c = 43 ∨ c = 45
  · simp only [if_pos hc]
    rw [e2, h3]
  · simp only [if_neg hc]
    rw [h2]
theorem digitsEnd_ge (s : ByteArray) (k : Int) : k ≤ digitsEnd s k := runEnd_ge _ s k
theorem digitsEnd_le (s : ByteArray) (k : Int) (h : k ≤ s.size) : digitsEnd s k ≤ s.size := runEnd_le _ s k h

/-- behind an opening sign: the end of a quoted text, -1 if there is none -/
def quotedGo (s : ByteArray) (q : Int) (i : Nat) : Int :=
  if i < s.size then
    (if bAt s i = q then (i : Int) + 1 else if bAt s i = 10 then -1
     else if bAt s i = 92 then (if bAt s (i + 1) = 10 then -1 else quotedGo s q (i + 2)) else quotedGo s q (i + 1))
  else -1
termination_by s.size - i
decreasing_by all_goals omega
def quoted (s : ByteArray) (k q : Int) : Int := if bAt s k = q then quotedGo s q (k + 1).toNat else -1
def strEnd (s : ByteArray) (k : Int) : Int := quoted s k 34
def ereEnd (s : ByteArray) (k : Int) : Int := if quoted s k 47 = k + 2 then -1 else quoted s k 47
def nameEnd (s : ByteArray) (k : Int) : Int := if isLetterB (bAt s k) then runEnd isWordB s k else -1
/-- has a text word bytes alone from a place on? -/
def wordsFrom (s : ByteArray) (i : Nat) : Bool := if i < s.size then isWordB (bAt s i) && wordsFrom s (i + 1) else true
termination_by s.size - i
decreasing_by omega
def nameShape (s : ByteArray) : Bool := wordsFrom s 0 && inB s.size 1 12 && isLetterB (bAt s 0)
end Go.Proofs.YtdajhcammnlonaaDoor
