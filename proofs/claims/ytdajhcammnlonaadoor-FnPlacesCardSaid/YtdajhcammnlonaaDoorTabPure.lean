/- The spelled words of the language, as plain data; where a text stands among them. No program is in sight here. -/
import Derived.Test.YtdajhcammnlonaaDoorScanPure
namespace Go.Proofs.YtdajhcammnlonaaDoor
open Go.RowKit

def kwL : List (List UInt8) := [[66, 69, 71, 73, 78], [69, 78, 68], [102, 117, 110, 99, 116, 105, 111, 110], [105, 102], [101, 108, 115, 101], [119, 104, 105, 108, 101], [102, 111, 114], [100, 111], [98, 114, 101, 97, 107], [99, 111, 110, 116, 105, 110, 117, 101], [110, 101, 120, 116], [101, 120, 105, 116], [114, 101, 116, 117, 114, 110], [100, 101, 108, 101, 116, 101], [105, 110], [112, 114, 105, 110, 116], [112, 114, 105, 110, 116, 102]]
def signL : List (List UInt8) := [[123], [125], [40], [41], [91], [93], [44], [59], [43, 61], [45, 61], [42, 61], [47, 61], [37, 61], [94, 61], [124, 124], [38, 38], [33, 126], [61, 61], [60, 61], [62, 61], [33, 61], [43, 43], [45, 45], [62, 62], [61], [43], [45], [42], [47], [37], [94], [33], [62], [60], [124], [63], [58], [126], [36]]
def biL : List (List UInt8) := [[97, 116, 97, 110, 50], [99, 108, 111, 115, 101], [99, 111, 115], [101, 120, 112], [103, 115, 117, 98], [105, 110, 100, 101, 120], [105, 110, 116], [108, 101, 110, 103, 116, 104], [108, 111, 103], [109, 97, 116, 99, 104], [114, 97, 110, 100], [115, 105, 110], [115, 112, 108, 105, 116], [115, 112, 114, 105, 110, 116, 102], [115, 113, 114, 116], [115, 114, 97, 110, 100], [115, 117, 98], [115, 117, 98, 115, 116, 114], [115, 121, 115, 116, 101, 109], [116, 111, 108, 111, 119, 101, 114], [116, 111, 117, 112, 112, 101, 114]]
def bs (l : List UInt8) : ByteArray := ⟨l.toArray⟩
/-- the place of a text among others, -1 where it is not there -/
def findFrom (x : List UInt8) : List (List UInt8) → Nat → Int
  | [], _ => -1
  | y :: r, k => if y = x then (k : Int) else findFrom x r (k + 1)
def findIx (l : List (List UInt8)) (s : ByteArray) : Int := findFrom s.data.toList l 0
theorem findFrom_no {x : List UInt8} : ∀ (l : List (List UInt8)) (k : Nat), (∀ y ∈ l, y ≠ x) → findFrom x l k = -1
  | [], _, _ => rfl
  | y :: r, k, h => by rw [findFrom, if_neg (h y (by simp)), findFrom_no r (k + 1) (fun z hz => h z (by simp [hz]))]
theorem findFrom_at {x : List UInt8} : ∀ (l : List (List UInt8)) (k j : Nat), (∀ i y, i < j → l[i]? = some y → y ≠ x) → l[j]? = some x → findFrom x l k = ((k + j : Nat) : Int)
  | [], _, _, _, h => by simp at h
  | y :: r, k, 0, _, h => by simp at h; subst h; rw [findFrom, if_pos rfl]; simp
  | y :: r, k, j + 1, h, hj => by
    rw [findFrom, if_neg (h 0 y (by omega) rfl), findFrom_at r (k + 1) j (fun i z hi hz => h (i + 1) z (by omega) (by simpa using hz)) (by simpa using hj)]
    omega
theorem findFrom_range {x : List UInt8} : ∀ (l : List (List UInt8)) (k : Nat), findFrom x l k = -1 ∨ ((k : Int) ≤ findFrom x l k ∧ findFrom x l k < k + l.length)
  | [], _ => .inl rfl
  | y :: r, k => by
    rw [findFrom]
    split
    · right; simp; omega
    · rcases findFrom_range (x := x) r (k + 1) with h | h
      · exact .inl h
      · right; simp; omega
theorem findIx_range (l : List (List UInt8)) (s : ByteArray) : -1 ≤ findIx l s ∧ findIx l s < l.length := by
  unfold findIx
  rcases findFrom_range (x := s.data.toList) l 0 with h | h <;> omega
def spellOf (k : Int) : ByteArray :=
  if k == 1 then bs [10] else if inB k 10 26 then bs (kwL.getD (k - 10).toNat []) else if inB k 30 68 then bs (signL.getD (k - 30).toNat []) else bs []
def keywordOf (s : ByteArray) : Int := if findIx kwL s < 0 then 0 else 10 + findIx kwL s
def isBuiltinB (s : ByteArray) : Bool := decide (0 ≤ findIx biL s)
def nameOkB (s : ByteArray) : Bool := nameShape s && keywordOf s == 0 && !isBuiltinB s
theorem keywordOf_range (s : ByteArray) : keywordOf s = 0 ∨ (10 ≤ keywordOf s ∧ keywordOf s ≤ 26) := by
  have h := findIx_range kwL s
  have e : kwL.length = 17 := rfl
  unfold keywordOf
  split <;> omega
def isAssignB (k : Int) : Bool := k == 54 || inB k 38 43
def opSpell (k : Int) : ByteArray := if opLevel k != 0 || isAssignB k || k == 61 || (k == 51 || k == 52) then spellOf k else bs []
/-- the longest sign at a place: its kind and its length -/
def opGo (t : List UInt8) : List (List UInt8) → Nat → Int × Nat → Int × Nat
  | [], _, a => a
  | g :: r, i, a => opGo t r (i + 1) (if g.length > a.2 ∧ g <+: t then ((30 + i : Nat), g.length) else a)
def opAt (s : ByteArray) (k : Int) : Int × Nat := if 0 ≤ k ∧ k < s.size then opGo (s.data.toList.drop k.toNat) signL 0 (0, 0) else (0, 0)
end Go.Proofs.YtdajhcammnlonaaDoor
