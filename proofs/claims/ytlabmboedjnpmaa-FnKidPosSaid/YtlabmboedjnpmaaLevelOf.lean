/- LevelOf (walks and the walk of the law). -/
import Derived.Test.YtlabmboedjnpmaaLawsKind
namespace Go.Proofs.Ytlabmboedjnpmaa
open Go.RowKit
set_option linter.unusedVariables false

def levelOf (k o : Int) : Int :=
  if k = 15 then 1 else if k = 14 then 2 else if k = 13 then 5 else if k = 12 then opLevel o else if k = 11 then 11 else if k = 9 ∨ k = 10 then 13 else if k = 6 then 14
  else if k = 1 ∨ k = 2 ∨ k = 3 ∨ k = 4 ∨ k = 5 ∨ k = 7 ∨ k = 8 then 15 else 0
set_option maxRecDepth 100000 in
set_option maxHeartbeats 1000000 in
theorem s_levelOf (k o : Int) (t u : ByteArray) (A : Option Addr) (n c : Nat) (w : World) : Calls Try.prog 17 #[.agg #[.int .i64 k, .int .i64 o, .string t, .string u, .slice A n c]] w (RetInt w (levelOf k o)) := by
  go_enter Try.func17, Try.ntmps17
  go_wp2_with (go_at_call 28; refine (s_opLevel _ _).mono ?_; rintro e w' ⟨rfl, rfl⟩)
  all_goals (go_ret; refine ⟨ret_int ?_, (Below.refl _ _).alloc (Nat.le_refl _) _⟩; simp_all [levelOf])
set_option maxRecDepth 100000 in
set_option maxHeartbeats 1000000 in
theorem i_levelOf (k o : Int) (t u : ByteArray) (A : Option Addr) (n c : Nat) (w : World) : Calls Try.prog 11 #[.agg #[.int .i64 k, .int .i64 o, .string t, .string u, .slice A n c]] w (RetInt w (levelOf k o)) := by
  go_enter Try.func11, Try.ntmps11
  go_wp2_with (go_at_call 22; refine (i_opLevel _ _).mono ?_; rintro e w' ⟨rfl, rfl⟩)
  all_goals (go_ret; refine ⟨ret_int ?_, (Below.refl _ _).alloc (Nat.le_refl _) _⟩; simp_all [levelOf])
end Go.Proofs.Ytlabmboedjnpmaa
