/- Positions: what the functions on a position return, and their laws. -/
import Derived.Test.YtlabmboedjnpmaaChars
import Derived.Test.YtlabmboedjnpmaaData
namespace Go.Proofs.Ytlabmboedjnpmaa
open Go.RowKit
set_option linter.unusedVariables false

theorem bcell {W w1 : World} (hb : Below W.heap.size W w1) : (∀ b o, b < W.heap.size → w1.cell? ⟨b, o, none⟩ = W.cell? ⟨b, o, none⟩) ∧ (∀ b o, b < W.heap.size → w1.frozen? ⟨b, o, none⟩ = W.frozen? ⟨b, o, none⟩) :=
  ⟨fun b o h => hb.cell (p := ⟨b, o, none⟩) h, fun b o h => hb.frozen (p := ⟨b, o, none⟩) h⟩

def posOk (l : Int) (d : Bool) : Bool := inB l 1 15 && (!d || l == 14)

theorem s_posOk (l : Int) (d i g n : Bool) (w : World) : Calls Try.prog 16 #[.agg #[.int .i64 l, .bool d, .bool i, .bool g, .bool n]] w fun e w' => e = .returned (.bool (posOk l d)) ∧ Below w.heap.size w w' := by
  by_cases h : inB l 1 15 = true
  · cases d
    all_goals
      go_enter Try.func16, Try.ntmps16
      go_wp2_with (go_at_call 25; refine (s_l1In _ _ _ _).mono ?_; rintro e w' ⟨rfl, rfl⟩)
      all_goals (go_ret; exact ⟨ret_bool (by simp [posOk, h]), (Below.refl _ _).alloc (Nat.le_refl _) _⟩)
  · rw [Bool.not_eq_true] at h
    go_enter Try.func16, Try.ntmps16
    go_wp2_with (go_at_call 25; refine (s_l1In _ _ _ _).mono ?_; rintro e w' ⟨rfl, rfl⟩)
    all_goals (go_ret; exact ⟨ret_bool (by simp [posOk, h]), (Below.refl _ _).alloc (Nat.le_refl _) _⟩)
theorem i_posOk (l : Int) (d i g n : Bool) (w : World) : Calls Try.prog 12 #[.agg #[.int .i64 l, .bool d, .bool i, .bool g, .bool n]] w fun e w' => e = .returned (.bool (posOk l d)) ∧ Below w.heap.size w w' := by
  by_cases h : inB l 1 15 = true
  · cases d
    all_goals
      go_enter Try.func12, Try.ntmps12
      go_wp2_with (go_at_call 21; refine (i_within _ _ _ _).mono ?_; rintro e w' ⟨rfl, rfl⟩)
      all_goals (go_ret; exact ⟨ret_bool (by simp [posOk, h]), (Below.refl _ _).alloc (Nat.le_refl _) _⟩)
  · rw [Bool.not_eq_true] at h
    go_enter Try.func12, Try.ntmps12
    go_wp2_with (go_at_call 21; refine (i_within _ _ _ _).mono ?_; rintro e w' ⟨rfl, rfl⟩)
    all_goals (go_ret; exact ⟨ret_bool (by simp [posOk, h]), (Below.refl _ _).alloc (Nat.le_refl _) _⟩)
theorem s_top (w : World) : Calls Try.prog 26 #[] w fun e w' => e = .returned (.agg #[.int .i64 1, .bool false, .bool false, .bool false, .bool false]) ∧ Below w.heap.size w w' := by
  go_enter Try.func26, Try.ntmps26
  go_wp2
  refine bodyPost_ret (v := .agg #[.int .i64 1, .bool false, .bool false, .bool false, .bool false]) (by simp [results, Try.results26, go_sem]) rfl ⟨rfl, ?_⟩
  repeat (first | exact Below.refl _ _ | refine Below.alloc ?_ (by simp; try omega) _ | refine Below.setCell ?_ (by simp; try omega) _)
theorem i_top (w : World) : Calls Try.prog 9 #[] w fun e w' => e = .returned (.agg #[.int .i64 1, .bool false, .bool false, .bool false, .bool false]) ∧ Below w.heap.size w w' := by
  go_enter Try.func9, Try.ntmps9
  go_wp2
  refine bodyPost_ret (v := .agg #[.int .i64 1, .bool false, .bool false, .bool false, .bool false]) (by simp [results, Try.results9, go_sem]) rfl ⟨rfl, ?_⟩
  repeat (first | exact Below.refl _ _ | refine Below.alloc ?_ (by simp; try omega) _ | refine Below.setCell ?_ (by simp; try omega) _)
end Go.Proofs.Ytlabmboedjnpmaa
