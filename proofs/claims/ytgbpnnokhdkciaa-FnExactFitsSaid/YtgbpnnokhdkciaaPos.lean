/- Positions: what the functions on a position return, and their laws. -/
import Derived.Test.YtgbpnnokhdkciaaChars
import Derived.Test.YtgbpnnokhdkciaaData
namespace Go.Proofs.Ytgbpnnokhdkciaa
open Go.RowKit
set_option linter.unusedVariables false

theorem bcell {W w1 : World} (hb : Below W.heap.size W w1) : (∀ b o, b < W.heap.size → w1.cell? ⟨b, o, none⟩ = W.cell? ⟨b, o, none⟩) ∧ (∀ b o, b < W.heap.size → w1.frozen? ⟨b, o, none⟩ = W.frozen? ⟨b, o, none⟩) :=
  ⟨fun b o h => hb.cell (p := ⟨b, o, none⟩) h, fun b o h => hb.frozen (p := ⟨b, o, none⟩) h⟩

def posOk (l : Int) (d : Bool) : Bool := inB l 1 15 && (!d || l == 14)

theorem l_toPos (l : Int) (d i g n : Bool) (w : World) : Calls Try.prog 34 #[.agg #[.int .i64 l, .bool d, .bool i, .bool g, .bool n]] w fun e w' => e = .returned (.agg #[.int .i64 l, .bool d, .bool i, .bool g, .bool n]) ∧ Below w.heap.size w w' := by
  go_enter Try.func34, Try.ntmps34
  go_wp2
  refine bodyPost_ret (v := .agg #[.int .i64 l, .bool d, .bool i, .bool g, .bool n]) (by simp [results, Try.results34, go_sem]) rfl ⟨rfl, ?_⟩
  repeat (first | exact Below.refl _ _ | refine Below.alloc ?_ (by simp; try omega) _ | refine Below.setCell ?_ (by simp; try omega) _)
theorem l_eqPos (l : Int) (d i g n : Bool) (w : World) : Calls Try.prog 38 #[.agg #[.int .i64 l, .bool d, .bool i, .bool g, .bool n], .agg #[.int .i64 l, .bool d, .bool i, .bool g, .bool n]] w fun e w' => e = .returned (.bool true) ∧ Below w.heap.size w w' := by
  go_enter Try.func38, Try.ntmps38
  go_wp2
  all_goals (go_ret; exact ⟨rfl, ((Below.refl _ _).alloc (Nat.le_refl _) _).alloc (by simp) _⟩)
theorem s_posOk (l : Int) (d i g n : Bool) (w : World) : Calls Try.prog 33 #[.agg #[.int .i64 l, .bool d, .bool i, .bool g, .bool n]] w fun e w' => e = .returned (.bool (posOk l d)) ∧ Below w.heap.size w w' := by
  by_cases h : inB l 1 15 = true
  · cases d
    all_goals
      go_enter Try.func33, Try.ntmps33
      go_wp2_with (go_at_call 92; refine (s_l1In _ _ _ _).mono ?_; rintro e w' ⟨rfl, rfl⟩)
      all_goals (go_ret; exact ⟨ret_bool (by simp [posOk, h]), (Below.refl _ _).alloc (Nat.le_refl _) _⟩)
  · rw [Bool.not_eq_true] at h
    go_enter Try.func33, Try.ntmps33
    go_wp2_with (go_at_call 92; refine (s_l1In _ _ _ _).mono ?_; rintro e w' ⟨rfl, rfl⟩)
    all_goals (go_ret; exact ⟨ret_bool (by simp [posOk, h]), (Below.refl _ _).alloc (Nat.le_refl _) _⟩)

theorem i_posOk (l : Int) (d i g n : Bool) (w : World) : Calls Try.prog 35 #[.agg #[.int .i64 l, .bool d, .bool i, .bool g, .bool n]] w fun e w' => e = .returned (.bool (posOk l d)) ∧ Below w.heap.size w w' := by
  by_cases h : inB l 1 15 = true
  · cases d
    all_goals
      go_enter Try.func35, Try.ntmps35
      go_wp2_with (go_at_call 93; refine (i_within _ _ _ _).mono ?_; rintro e w' ⟨rfl, rfl⟩)
      all_goals (go_ret; exact ⟨ret_bool (by simp [posOk, h]), (Below.refl _ _).alloc (Nat.le_refl _) _⟩)
  · rw [Bool.not_eq_true] at h
    go_enter Try.func35, Try.ntmps35
    go_wp2_with (go_at_call 93; refine (i_within _ _ _ _).mono ?_; rintro e w' ⟨rfl, rfl⟩)
    all_goals (go_ret; exact ⟨ret_bool (by simp [posOk, h]), (Below.refl _ _).alloc (Nat.le_refl _) _⟩)
theorem s_top (w : World) : Calls Try.prog 36 #[] w fun e w' => e = .returned (.agg #[.int .i64 1, .bool false, .bool false, .bool false, .bool false]) ∧ Below w.heap.size w w' := by
  go_enter Try.func36, Try.ntmps36
  go_wp2
  refine bodyPost_ret (v := .agg #[.int .i64 1, .bool false, .bool false, .bool false, .bool false]) (by simp [results, Try.results36, go_sem]) rfl ⟨rfl, ?_⟩
  repeat (first | exact Below.refl _ _ | refine Below.alloc ?_ (by simp; try omega) _ | refine Below.setCell ?_ (by simp; try omega) _)
theorem i_top (w : World) : Calls Try.prog 37 #[] w fun e w' => e = .returned (.agg #[.int .i64 1, .bool false, .bool false, .bool false, .bool false]) ∧ Below w.heap.size w w' := by
  go_enter Try.func37, Try.ntmps37
  go_wp2
  refine bodyPost_ret (v := .agg #[.int .i64 1, .bool false, .bool false, .bool false, .bool false]) (by simp [results, Try.results37, go_sem]) rfl ⟨rfl, ?_⟩
  repeat (first | exact Below.refl _ _ | refine Below.alloc ?_ (by simp; try omega) _ | refine Below.setCell ?_ (by simp; try omega) _)

theorem l_Top (w : World) : Calls Try.prog 6 #[] w fun e w' => e = .returned (.bool true) ∧ Below w.heap.size w w' := by
  go_enter Try.func6, Try.ntmps6
  go_wp2_with fail
  refine (s_top _).mono ?_
  rintro e w1 ⟨rfl, hb1⟩
  go_wp2_with fail
  refine (i_top _).mono ?_
  rintro e w2 ⟨rfl, hb2⟩
  have hz2 : w1.heap.size < w2.heap.size := by have := hb2.size; simp at this; omega
  have hc2 : ∀ o, w2.cell? ⟨w1.heap.size, o, none⟩ = _ := fun o => hb2.cell (p := ⟨w1.heap.size, o, none⟩) (by simp)
  go_wp2_with fail
  refine (l_eqPos _ _ _ _ _ _).mono ?_
  rintro e w3 ⟨rfl, hb3⟩
  go_wp2_with fail
  go_ret
  exact ⟨rfl, ((((hb1.alloc (by have := hb1.size; omega) _).trans (hb2.mono (by have := hb1.size; simp; omega))).alloc (by have := hb1.size; omega) _).trans (hb3.mono (by have := hb1.size; simp; omega)))⟩
theorem l_PosOk0 (l : Int) (d i g n : Bool) (w : World) : Calls Try.prog 5 #[.agg #[.int .i64 l, .bool d, .bool i, .bool g, .bool n]] w fun e w' => e = .returned (.bool true) ∧ Below w.heap.size w w' := by
  go_enter Try.func5, Try.ntmps5
  go_wp2_with fail
  refine (l_toPos _ _ _ _ _ _).mono ?_
  rintro e w1 ⟨rfl, hb1⟩
  have hz1 : w.heap.size < w1.heap.size := by have := hb1.size; simp at this; omega
  have hc1 : ∀ o, w1.cell? ⟨w.heap.size, o, none⟩ = _ := fun o => hb1.cell (p := ⟨w.heap.size, o, none⟩) (by simp)
  go_wp2_with fail
  refine (s_posOk _ _ _ _ _ _).mono ?_
  rintro e w2 ⟨rfl, hb2⟩
  have hz2 : w.heap.size < w2.heap.size := by have := hb2.size; omega
  have hc2 : ∀ o, w2.cell? ⟨w.heap.size, o, none⟩ = _ := fun o => hb2.cell (p := ⟨w.heap.size, o, none⟩) (by simp; omega)
  go_wp2_with fail
  refine (l_toPos _ _ _ _ _ _).mono ?_
  rintro e w3 ⟨rfl, hb3⟩
  have hz3 := hb3.size
  go_wp2_with fail
  refine (i_posOk _ _ _ _ _ _).mono ?_
  rintro e w4 ⟨rfl, hb4⟩
  have hz4 := hb4.size
  go_wp2_with fail
  go_ret
  exact ⟨rfl, ((((Below.refl _ w).alloc (Nat.le_refl _) _).trans (hb1.mono (by simp))).trans (hb2.mono (by have := hb1.size; simp at this; omega))).trans ((hb3.mono (by omega)).trans (hb4.mono (by omega)))⟩
theorem l_PosOk (v : Value) (a : PPos) (w : World) (h : PosIs v a) : Calls Try.prog 5 #[v] w fun e w' => e = .returned (.bool true) ∧ Below w.heap.size w w' := by
  obtain ⟨rfl, _⟩ := h
  exact l_PosOk0 _ _ _ _ _ w
end Go.Proofs.Ytgbpnnokhdkciaa
