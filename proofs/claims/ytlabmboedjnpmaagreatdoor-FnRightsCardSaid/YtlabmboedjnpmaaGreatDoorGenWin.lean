/- The draws of trees: out of each of some states, one behind the other, what is drawn is small (computed). No program is in sight here. -/
import Derived.Test.YtlabmboedjnpmaaGreatDoorGenR
namespace Go.Proofs.YtlabmboedjnpmaaGreatDoor
open Go.RowKit
set_option linter.unusedVariables false

def smallG (f b : Nat → Nat) (g : Gen) (m s : Nat) : Bool := Nat.ble (Gen.run b f g s).1 m
def allSmall (f b : Nat → Nat) (g : Gen) (m : Nat) : Nat → Nat → Bool
  | 0, _ => true
  | k + 1, s => smallG f b g m s && allSmall f b g m k (f s)
set_option maxRecDepth 100000 in
theorem some_window : allSmall lcgN byteN someG 60 404 0 = true := by decide +kernel
set_option maxRecDepth 100000 in
theorem prog_window : allSmall lcgN byteN progG 220 2857 0 = true := by decide +kernel
end Go.Proofs.YtlabmboedjnpmaaGreatDoor
