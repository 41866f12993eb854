/- Plain functions that say what the small functions of the program return, and plain facts on them. No program is in sight here. -/
import Derived.WalkKit
import Derived.Lib.Hide
namespace Go.Proofs.Ytlabmboedjnpmaa
open Go.RowKit

theorem ret_bool {a b : Bool} (h : a = b) : Ending.returned (.bool a) = .returned (.bool b) := by rw [h]
theorem ret_int {a b : Int} (h : a = b) : Ending.returned (.int .i64 a) = .returned (.int .i64 b) := by rw [h]
theorem ret_str {a b : ByteArray} (h : a = b) : Ending.returned (.string a) = .returned (.string b) := by rw [h]

def inB (x lo hi : Int) : Bool := decide (lo ≤ x) && decide (x ≤ hi)
theorem inB_true {x lo hi : Int} : inB x lo hi = true ↔ lo ≤ x ∧ x ≤ hi := by simp [inB]
theorem inB_false {x lo hi : Int} : inB x lo hi = false ↔ ¬ (lo ≤ x ∧ x ≤ hi) := by rw [← inB_true]; simp
def isBlankB (x : Int) : Bool := x == 32 || x == 9
def isDigitB (x : Int) : Bool := inB x 48 57
def isLetterB (x : Int) : Bool := inB x 97 122 || inB x 65 90 || x == 95
def isWordB (x : Int) : Bool := isLetterB x || isDigitB x
def isLvalueB (x : Int) : Bool := x == 1 || x == 5 || x == 6
def isExprB (x : Int) : Bool := inB x 1 15
def isStmtB (x : Int) : Bool := inB x 20 34
def endsB (x : Int) : Bool := x == 3 || x == 4 || x == 5 || x == 6 || x == 8 || x == 33 || x == 35 || x == 51 || x == 52
def beginsB (x : Int) : Bool := x == 3 || x == 4 || x == 6 || x == 7 || x == 8 || x == 32 || x == 68

def faultWords : List (List UInt8) := [[110, 111, 110, 101], [108, 97, 114, 103, 101], [108, 101, 120], [115, 121, 110, 116, 97, 120], [100, 101, 101, 112]]
def faultWord (k : Int) : ByteArray := if inB k 0 4 then ⟨(faultWords.getD k.toNat []).toArray⟩ else ⟨#[]⟩
def levelWords : List (List UInt8) := [[97, 115, 115, 105, 103, 110], [99, 111, 110, 100], [111, 114], [97, 110, 100], [105, 110], [109, 97, 116, 99, 104], [99, 111, 109, 112, 97, 114, 101], [99, 97, 116], [97, 100, 100], [109, 117, 108], [117, 110, 97, 114, 121], [112, 111, 119], [105, 110, 99, 114], [102, 105, 101, 108, 100], [112, 114, 105, 109, 97, 114, 121]]
def levelWord (k : Int) : ByteArray := if inB k 1 15 then ⟨(levelWords.getD (k - 1).toNat []).toArray⟩ else ⟨#[]⟩
def opLevel (op : Int) : Int :=
  if op == 44 then 3 else if op == 45 then 4 else if op == 67 || op == 46 then 6
  else if op == 63 || op == 48 || op == 47 || op == 50 || op == 62 || op == 49 then 7
  else if op == 99 then 8 else if op == 55 || op == 56 then 9 else if op == 57 || op == 58 || op == 59 then 10 else if op == 60 then 12 else 0
end Go.Proofs.Ytlabmboedjnpmaa
