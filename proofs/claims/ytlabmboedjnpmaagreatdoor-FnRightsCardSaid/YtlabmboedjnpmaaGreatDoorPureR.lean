/- Several texts in one (printed by a program): Pure, ScanPure, TabPure. -/
import Derived.WalkKit
import Derived.Lib.Hide
/-! Pure -/
namespace Go.Proofs.YtlabmboedjnpmaaGreatDoor
open Go.RowKit

theorem ret_bool {a b : Bool} (h : a = b) : Ending.returned (.bool a) = .returned (.bool b) := by rw [h]
theorem ret_int {a b : Int} (h : a = b) : Ending.returned (.int .i64 a) = .returned (.int .i64 b) := by rw [h]
theorem ret_str {a b : ByteArray} (h : a = b) : Ending.returned (.string a) = .returned (.string b) := by rw [h]

def inB (x lo hi : Int) : Bool := decide (lo ≤ x) && decide (x ≤ hi)
theorem inB_true {x lo hi : Int} : inB x lo hi = true ↔ lo ≤ x ∧ x ≤ hi := by simp [inB]
theorem inB_false {x lo hi : Int} : inB x lo hi = false ↔ ¬ (lo ≤ x ∧ x ≤ hi) := by rw [← inB_true]; simp
def isBlankB (x : Int) : Bool := x == 32 || x == 9
def isDigitB (x : Int) : Bool := inB x 48 57
def isLetterB (x : Int) : Bool := inB x 97 122 || inB x 65 90 || x == 95
def isWordB (x : Int) : Bool := isLetterB x || isDigitB x
def isLvalueB (x : Int) : Bool := x == 1 || x == 5 || x == 6
def isExprB (x : Int) : Bool := inB x 1 15
def isStmtB (x : Int) : Bool := inB x 20 34
def endsB (x : Int) : Bool := x == 3 || x == 4 || x == 5 || x == 6 || x == 8 || x == 33 || x == 35 || x == 51 || x == 52
def beginsB (x : Int) : Bool := x == 3 || x == 4 || x == 6 || x == 7 || x == 8 || x == 32 || x == 68

def faultWords : List (List UInt8) := [[110, 111, 110, 101], [108, 97, 114, 103, 101], [108, 101, 120], [115, 121, 110, 116, 97, 120], [100, 101, 101, 112]]
def faultWord (k : Int) : ByteArray := if inB k 0 4 then ⟨(faultWords.getD k.toNat []).toArray⟩ else ⟨#[]⟩
def levelWords : List (List UInt8) := [[97, 115, 115, 105, 103, 110], [99, 111, 110, 100], [111, 114], [97, 110, 100], [105, 110], [109, 97, 116, 99, 104], [99, 111, 109, 112, 97, 114, 101], [99, 97, 116], [97, 100, 100], [109, 117, 108], [117, 110, 97, 114, 121], [112, 111, 119], [105, 110, 99, 114], [102, 105, 101, 108, 100], [112, 114, 105, 109, 97, 114, 121]]
def levelWord (k : Int) : ByteArray := if inB k 1 15 then ⟨(levelWords.getD (k - 1).toNat []).toArray⟩ else ⟨#[]⟩
def opLevel (op : Int) : Int :=
  if op == 44 then 3 else if op == 45 then 4 else if op == 67 || op == 46 then 6
  else if op == 63 || op == 48 || op == 47 || op == 50 || op == 62 || op == 49 then 7
  else if op == 99 then 8 else if op == 55 || op == 56 then 9 else if op == 57 || op == 58 || op == 59 then 10 else if op == 60 then 12 else 0
end Go.Proofs.YtlabmboedjnpmaaGreatDoor
/-! ScanPure -/
namespace Go.Proofs.YtlabmboedjnpmaaGreatDoor
open Go.RowKit

/-- the byte at a place, -1 if there is none -/
def bAt (s : ByteArray) (k : Int) : Int := if h : 0 ≤ k ∧ k < s.size then ((s[k.toNat]'(by omega)).toNat : Int) else -1
theorem bAt_in {s : ByteArray} {k : Int} (h0 : 0 ≤ k) (h1 : k < s.size) : bAt s k = ((s[k.toNat]'(by omega)).toNat : Int) := by
  unfold bAt; rw [dif_pos ⟨h0, h1⟩]
theorem bAt_nat {s : ByteArray} {k : Nat} (h : k < s.size) : bAt s k = (s[k].toNat : Int) := by
  rw [bAt_in (by omega) (by omega)]; rfl
theorem bAt_out {s : ByteArray} {k : Int} (h : ¬ (0 ≤ k ∧ k < s.size)) : bAt s k = -1 := by
  unfold bAt; rw [dif_neg h]
theorem bAt_lt (s : ByteArray) (k : Int) : bAt s k < 256 := by
  by_cases h : 0 ≤ k ∧ k < s.size
  · rw [bAt_in h.1 h.2]; have := (s[k.toNat]'(by omega)).toNat_lt; omega
  · rw [bAt_out h]; omega
theorem bAt_ge (s : ByteArray) (k : Int) : -1 ≤ bAt s k := by
  by_cases h : 0 ≤ k ∧ k < s.size
  · rw [bAt_in h.1 h.2]; omega
  · rw [bAt_out h]; omega
theorem bAt_range {s : ByteArray} {k : Int} (h : bAt s k ≠ -1) : 0 ≤ k ∧ k < s.size := by
  by_cases g : 0 ≤ k ∧ k < s.size
  · exact g
  · exact absurd (bAt_out g) h
theorem bAt_nonneg {s : ByteArray} {k : Int} (h : 0 ≤ k ∧ k < s.size) : 0 ≤ bAt s k := by
  rw [bAt_in h.1 h.2]; omega

/-- the end of the run of bytes with p from a place on -/
def runEnd (p : Int → Bool) (s : ByteArray) (k : Int) : Int :=
  if h : (0 ≤ k ∧ k < s.size) ∧ p (bAt s k) = true then runEnd p s (k + 1) else k
termination_by (s.size - k).toNat
decreasing_by omega
theorem runEnd_step {p : Int → Bool} {s : ByteArray} {k : Int} (hp : p (-1) = false) (h : p (bAt s k) = true) : runEnd p s k = runEnd p s (k + 1) := by
  have hr : 0 ≤ k ∧ k < s.size := bAt_range (fun e => by rw [e, hp] at h; cases h)
  rw [runEnd, dif_pos ⟨hr, h⟩]
theorem runEnd_stop {p : Int → Bool} {s : ByteArray} {k : Int} (h : p (bAt s k) = false) : runEnd p s k = k := by
  rw [runEnd, dif_neg (fun g => by rw [g.2] at h; cases h)]
theorem runEnd_ge (p : Int → Bool) (s : ByteArray) (k : Int) : k ≤ runEnd p s k := by
  rw [runEnd]
  split
  · have := runEnd_ge p s (k + 1); omega
  · omega
termination_by (s.size - k).toNat
decreasing_by omega
theorem runEnd_le (p : Int → Bool) (s : ByteArray) (k : Int) (hk : k ≤ s.size) : runEnd p s k ≤ s.size := by
  rw [runEnd]
  split
  · rename_i h; exact runEnd_le p s (k + 1) (by omega)
  · omega
termination_by (s.size - k).toNat
decreasing_by omega
theorem runEnd_far (p : Int → Bool) (s : ByteArray) (k : Int) (hk : (s.size : Int) ≤ k) : runEnd p s k = k := by
  rw [runEnd, dif_neg (fun h => by omega)]

theorem isDigitB_m1 : isDigitB (-1) = false := by decide
theorem isWordB_m1 : isWordB (-1) = false := by decide
theorem isLetterB_m1 : isLetterB (-1) = false := by decide

def digitsEnd (s : ByteArray) (k : Int) : Int := runEnd isDigitB s k

/-- the end of a number's digits and point, -1 if there is none -/
def numMant (s : ByteArray) (k : Int) : Int :=
  if bAt s (digitsEnd s k) = 46 then
    (if digitsEnd s k = k ∧ digitsEnd s (digitsEnd s k + 1) = digitsEnd s k + 1 then -1 else digitsEnd s (digitsEnd s k + 1))
  else if digitsEnd s k = k then -1 else digitsEnd s k
/-- the first digit of an exponent's number behind its letter -/
def expFirst (s : ByteArray) (e : Int) : Int := if bAt s (e + 1) = 43 ∨ bAt s (e + 1) = 45 then e + 2 else e + 1
/-- the end of a number whose digits and point end at e -/
def numExp (s : ByteArray) (e : Int) : Int :=
  if (bAt s e = 101 ∨ bAt s e = 69) ∧ digitsEnd s (expFirst s e) > expFirst s e then digitsEnd s (expFirst s e) else e
def numEnd (s : ByteArray) (k : Int) : Int :=
  if k < 0 then -1 else if numMant s k = -1 then -1 else numExp s (numMant s k)

theorem numExp_eq {s : ByteArray} {m bm c d1 d2 : Int} (h0 : bAt s m = bm) (h1 : bAt s (m + 1) = c) (h2 : digitsEnd s (m + 1) = d1) (h3 : digitsEnd s (m + 1 + 1) = d2) :
    numExp s m = if (bm = 101 ∨ bm = 69) ∧ (if c = 43 ∨ c = 45 then d2 > m + 1 + 1 else d1 > m + 1) then (if c = 43 ∨ c = 45 then d2 else d1) else m := by
  have e2 : m + 2 = m + 1 + 1 := by omega
  unfold numExp expFirst
  rw [h0, h1]
  by_cases hc : c = 43 ∨ c = 45
  · simp only [if_pos hc]
    rw [e2, h3]
  · simp only [if_neg hc]
    rw [h2]
theorem digitsEnd_ge (s : ByteArray) (k : Int) : k ≤ digitsEnd s k := runEnd_ge _ s k
theorem digitsEnd_le (s : ByteArray) (k : Int) (h : k ≤ s.size) : digitsEnd s k ≤ s.size := runEnd_le _ s k h

/-- behind an opening sign: the end of a quoted text, -1 if there is none -/
def quotedGo (s : ByteArray) (q : Int) (i : Nat) : Int :=
  if i < s.size then
    (if bAt s i = q then (i : Int) + 1 else if bAt s i = 10 then -1
     else if bAt s i = 92 then (if bAt s (i + 1) = 10 then -1 else quotedGo s q (i + 2)) else quotedGo s q (i + 1))
  else -1
termination_by s.size - i
decreasing_by all_goals omega
def quoted (s : ByteArray) (k q : Int) : Int := if bAt s k = q then quotedGo s q (k + 1).toNat else -1
def strEnd (s : ByteArray) (k : Int) : Int := quoted s k 34
def ereEnd (s : ByteArray) (k : Int) : Int := if quoted s k 47 = k + 2 then -1 else quoted s k 47
def nameEnd (s : ByteArray) (k : Int) : Int := if isLetterB (bAt s k) then runEnd isWordB s k else -1
/-- has a text word bytes alone from a place on? -/
def wordsFrom (s : ByteArray) (i : Nat) : Bool := if i < s.size then isWordB (bAt s i) && wordsFrom s (i + 1) else true
termination_by s.size - i
decreasing_by omega
def nameShape (s : ByteArray) : Bool := wordsFrom s 0 && inB s.size 1 12 && isLetterB (bAt s 0)
end Go.Proofs.YtlabmboedjnpmaaGreatDoor
/-! TabPure -/
namespace Go.Proofs.YtlabmboedjnpmaaGreatDoor
open Go.RowKit

def kwL : List (List UInt8) := [[66, 69, 71, 73, 78], [69, 78, 68], [102, 117, 110, 99, 116, 105, 111, 110], [105, 102], [101, 108, 115, 101], [119, 104, 105, 108, 101], [102, 111, 114], [100, 111], [98, 114, 101, 97, 107], [99, 111, 110, 116, 105, 110, 117, 101], [110, 101, 120, 116], [101, 120, 105, 116], [114, 101, 116, 117, 114, 110], [100, 101, 108, 101, 116, 101], [105, 110], [112, 114, 105, 110, 116], [112, 114, 105, 110, 116, 102]]
def signL : List (List UInt8) := [[123], [125], [40], [41], [91], [93], [44], [59], [43, 61], [45, 61], [42, 61], [47, 61], [37, 61], [94, 61], [124, 124], [38, 38], [33, 126], [61, 61], [60, 61], [62, 61], [33, 61], [43, 43], [45, 45], [62, 62], [61], [43], [45], [42], [47], [37], [94], [33], [62], [60], [124], [63], [58], [126], [36]]
def biL : List (List UInt8) := [[97, 116, 97, 110, 50], [99, 108, 111, 115, 101], [99, 111, 115], [101, 120, 112], [103, 115, 117, 98], [105, 110, 100, 101, 120], [105, 110, 116], [108, 101, 110, 103, 116, 104], [108, 111, 103], [109, 97, 116, 99, 104], [114, 97, 110, 100], [115, 105, 110], [115, 112, 108, 105, 116], [115, 112, 114, 105, 110, 116, 102], [115, 113, 114, 116], [115, 114, 97, 110, 100], [115, 117, 98], [115, 117, 98, 115, 116, 114], [115, 121, 115, 116, 101, 109], [116, 111, 108, 111, 119, 101, 114], [116, 111, 117, 112, 112, 101, 114]]
def bs (l : List UInt8) : ByteArray := ⟨l.toArray⟩
/-- the place of a text among others, -1 where it is not there -/
def findFrom (x : List UInt8) : List (List UInt8) → Nat → Int
  | [], _ => -1
  | y :: r, k => if y = x then (k : Int) else findFrom x r (k + 1)
def findIx (l : List (List UInt8)) (s : ByteArray) : Int := findFrom s.data.toList l 0
theorem findFrom_no {x : List UInt8} : ∀ (l : List (List UInt8)) (k : Nat), (∀ y ∈ l, y ≠ x) → findFrom x l k = -1
  | [], _, _ => rfl
  | y :: r, k, h => by rw [findFrom, if_neg (h y (by simp)), findFrom_no r (k + 1) (fun z hz => h z (by simp [hz]))]
theorem findFrom_at {x : List UInt8} : ∀ (l : List (List UInt8)) (k j : Nat), (∀ i y, i < j → l[i]? = some y → y ≠ x) → l[j]? = some x → findFrom x l k = ((k + j : Nat) : Int)
  | [], _, _, _, h => by simp at h
  | y :: r, k, 0, _, h => by simp at h; subst h; rw [findFrom, if_pos rfl]; simp
  | y :: r, k, j + 1, h, hj => by
    rw [findFrom, if_neg (h 0 y (by omega) rfl), findFrom_at r (k + 1) j (fun i z hi hz => h (i + 1) z (by omega) (by simpa using hz)) (by simpa using hj)]
    omega
theorem findFrom_range {x : List UInt8} : ∀ (l : List (List UInt8)) (k : Nat), findFrom x l k = -1 ∨ ((k : Int) ≤ findFrom x l k ∧ findFrom x l k < k + l.length)
  | [], _ => .inl rfl
  | y :: r, k => by
    rw [findFrom]
    split
    · right; simp; omega
    · rcases findFrom_range (x := x) r (k + 1) with h | h
      · exact .inl h
      · right; simp; omega
theorem findIx_range (l : List (List UInt8)) (s : ByteArray) : -1 ≤ findIx l s ∧ findIx l s < l.length := by
  unfold findIx
  rcases findFrom_range (x := s.data.toList) l 0 with h | h <;> omega
def spellOf (k : Int) : ByteArray :=
  if k == 1 then bs [10] else if inB k 10 26 then bs (kwL.getD (k - 10).toNat []) else if inB k 30 68 then bs (signL.getD (k - 30).toNat []) else bs []
def keywordOf (s : ByteArray) : Int := if findIx kwL s < 0 then 0 else 10 + findIx kwL s
def isBuiltinB (s : ByteArray) : Bool := decide (0 ≤ findIx biL s)
def nameOkB (s : ByteArray) : Bool := nameShape s && keywordOf s == 0 && !isBuiltinB s
theorem keywordOf_range (s : ByteArray) : keywordOf s = 0 ∨ (10 ≤ keywordOf s ∧ keywordOf s ≤ 26) := by
  have h := findIx_range kwL s
  have e : kwL.length = 17 := rfl
  unfold keywordOf
  split <;> omega
def isAssignB (k : Int) : Bool := k == 54 || inB k 38 43
def opSpell (k : Int) : ByteArray := if opLevel k != 0 || isAssignB k || k == 61 || (k == 51 || k == 52) then spellOf k else bs []
/-- the longest sign at a place: its kind and its length -/
def opGo (t : List UInt8) : List (List UInt8) → Nat → Int × Nat → Int × Nat
  | [], _, a => a
  | g :: r, i, a => opGo t r (i + 1) (if g.length > a.2 ∧ g <+: t then ((30 + i : Nat), g.length) else a)
def opAt (s : ByteArray) (k : Int) : Int × Nat := if 0 ≤ k ∧ k < s.size then opGo (s.data.toList.drop k.toNat) signL 0 (0, 0) else (0, 0)
end Go.Proofs.YtlabmboedjnpmaaGreatDoor
