/- How many choices a draw of trees makes at most, and how many nodes it gives at most. No program is in sight here. -/
import Derived.Test.YtlabmboedjnpmaaGenPure
namespace Go.Proofs.Ytlabmboedjnpmaa
open Go.RowKit
set_option linter.unusedVariables false

theorem one_in {n : Nat} (h : 0 < n) : (oneG n).In 1 1 := ⟨h, Nat.one_pos, fun x _ => show 1 ≤ 1 from Nat.le_refl _⟩
theorem Gen.In.draw {n : Nat} {k : Nat → Gen} {N M : Nat} (hn : 0 < n) (h : ∀ x, x < n → (k x).In N M) : (Gen.draw n k).In (N + 1) M := ⟨hn, Nat.succ_pos _, h⟩
theorem leaf_in : leafG.In 3 1 := by
  refine Gen.In.draw (N := 2) (by decide) fun x hx => ?_
  match x with
  | 0 => exact (one_in (by decide)).more (by decide) (by decide)
  | 1 => exact (one_in (by decide)).more (by decide) (by decide)
  | 2 =>
    refine Gen.In.draw (N := 1) (by decide) fun y hy => ?_
    match y with
    | 0 => exact one_in (by decide)
    | y + 1 => exact one_in (by decide)
  | x + 3 => exact (one_in (by decide)).more (by decide) (by decide)
theorem lvalue_in {f1 f2 : Gen} {N M : Nat} (h1 : f1.In N M) (h2 : f2.In N M) : (lvalueG f1 f2).In (N + 2) (M + 1) := by
  refine Gen.In.draw (N := N + 1) (by decide) fun x hx => ?_
  match x with
  | 0 => exact Gen.In.draw (by decide) fun _ _ => h1.up
  | 1 => exact h2.up.more (by omega) (by omega)
  | x + 2 => exact (one_in (by decide)).more (by omega) (by omega)
theorem list_in {f : Gen} {least n N M m : Nat} (h : f.In N M) (hn : 0 < n) (hm : least + n ≤ m + 1) : (listG f least n).In (m * N + 1) (m * M) :=
  Gen.In.draw hn fun x hx => h.upto (by omega)
theorem step_in {f1 f2 f3 : Gen} {N M : Nat} (h1 : f1.In N M) (h2 : f2.In N M) (h3 : f3.In N M) (hN : 3 ≤ N) (hM : 1 ≤ M) : (stepG f1 f2 f3).In (3 * N + 4) (3 * M + 1) := by
  refine Gen.In.draw (N := 3 * N + 3) (by decide) fun _ _ => Gen.In.draw (N := 3 * N + 2) (by decide) fun x hx => ?_
  have hl := lvalue_in h1 h2
  have hl2 := lvalue_in h2 h3
  match x with
  | 0 => exact leaf_in.more (by omega) (by omega)
  | 1 => exact hl.more (by omega) (by omega)
  | 2 => exact h1.up.more (by omega) (by omega)
  | 3 => exact Gen.In.draw (by decide) fun _ _ => (list_in h1 (by decide) (by decide)).up
  | 4 => exact Gen.In.draw (by decide) fun _ _ => (list_in h2 (by decide) (by decide)).up
  | 5 => exact hl2.up.more (by omega) (by omega)
  | 6 => exact hl2.up.more (by omega) (by omega)
  | 7 => exact (Gen.In.draw (by decide) fun _ _ => h1.up).more (by omega) (by omega)
  | 8 => exact (Gen.In.draw (by decide) fun _ _ => h1.up).more (by omega) (by omega)
  | 9 => exact (Gen.In.draw (by decide) fun _ _ => (list_in (m := 2) h1 (by decide) (by decide)).up).more (by omega) (by omega)
  | 10 => exact ((h1.plus h1).plus h1).up.more (by omega) (by omega)
  | 11 => exact (Gen.In.draw (by decide) fun _ _ => (hl2.plus h1).up).more (by omega) (by omega)
  | x + 12 => exact (Gen.In.draw (by decide) fun _ _ => (h1.plus h1).up).more (by omega) (by omega)
theorem expr1_in : expr1G.In 13 4 := step_in leaf_in leaf_in leaf_in (by decide) (by decide)
theorem expr2_in : expr2G.In 43 13 := step_in expr1_in (leaf_in.more (by decide) (by decide)) (leaf_in.more (by decide) (by decide)) (by decide) (by decide)
theorem expr3_in : expr3G.In 133 40 := step_in expr2_in (expr1_in.more (by decide) (by decide)) (leaf_in.more (by decide) (by decide)) (by decide) (by decide)
theorem expr4_in : expr4G.In 403 121 := step_in expr3_in (expr2_in.more (by decide) (by decide)) (expr1_in.more (by decide) (by decide)) (by decide) (by decide)
theorem expr_in : ∀ d, (exprG d).In 403 121
  | 0 => leaf_in.more (by decide) (by decide)
  | 1 => expr1_in.more (by decide) (by decide)
  | 2 => expr2_in.more (by decide) (by decide)
  | 3 => expr3_in.more (by decide) (by decide)
  | _ + 4 => expr4_in
theorem some_in : someG.In 404 121 := Gen.In.draw (by decide) fun d _ => expr_in _
theorem block_in {s : Gen} {N M : Nat} (h : s.In N M) : (blockG s).In (2 * N + 1) (2 * M + 1) := Gen.In.draw (by decide) fun x hx => (h.upto (by omega)).up
theorem maybe_in {f : Gen} {N M : Nat} (h : f.In N M) (hM : 1 ≤ M) : (maybeG f).In (N + 1) M := by
  refine Gen.In.draw (by decide) fun x hx => ?_
  match x with
  | 0 => exact hM
  | x + 1 => exact h
theorem print_in {f f1 : Gen} {N M : Nat} (h : f.In N M) (h1 : f1.In N M) : (printG f f1).In (4 * N + 4) (4 * M + 1) := by
  refine (Gen.In.draw (N := 4 * N + 3) (by decide) fun o ho => ?_)
  have e := list_in (f := f) (least := o) (n := 4 - o) (m := 3) h (by omega) (by omega)
  refine Gen.In.more (Gen.In.bind (N2 := N + 2) (M2 := 4 * M + 1) (fun a ha => ?_) e) (by omega) (by omega)
  refine Gen.In.draw (N := N + 1) (by decide) fun y hy => ?_
  match y with
  | 0 => exact Gen.In.draw (N := N) (by decide) fun _ _ => Gen.In.bind (f := fun b => .ret (a + b + 1)) (N2 := 0) (M2 := 4 * M + 1) (fun b hb => show a + b + 1 ≤ 4 * M + 1 by omega) h1
  | y + 1 => exact show a + 1 ≤ 4 * M + 1 by omega
theorem simple_in {f f1 : Gen} {N M : Nat} (h : f.In N M) (h1 : f1.In N M) (hM : 1 ≤ M) : (simpleG f f1).In (4 * N + 5) (4 * M + 1) := by
  have hp := print_in h h1
  refine Gen.In.draw (N := 4 * N + 4) (by decide) fun x hx => ?_
  match x with
  | 0 => exact hp
  | 1 => exact hp
  | 2 => exact (one_in (by decide)).more (by omega) (by omega)
  | 3 => exact (Gen.In.draw (by decide) fun _ _ => (list_in (m := 1) h (by decide) (by decide)).up).more (by omega) (by omega)
  | 4 => exact (Gen.In.draw (by decide) fun _ _ => (list_in (m := 2) h1 (by decide) (by decide)).up).more (by omega) (by omega)
  | 5 =>
    refine (Gen.In.draw (N := N + 1) (M := M + 1) (by decide) fun y hy => ?_).more (by omega) (by omega)
    match y with
    | 0 => exact (one_in (by decide)).more (by omega) (by omega)
    | y + 1 => exact h.up.more (by omega) (by omega)
  | x + 6 => exact h.up.more (by omega) (by omega)
theorem stmt0_in : stmt0G.In 17 5 := simple_in leaf_in leaf_in (by decide)
theorem stmt1_in : stmt1G.In 109 33 := by
  have hb := block_in stmt0_in
  have hs := simple_in expr1_in (leaf_in.more (by decide) (by decide)) (by decide)
  have hm := maybe_in expr1_in (by decide)
  have hm2 := maybe_in expr2_in (by decide)
  refine Gen.In.draw (N := 108) (by decide) fun y hy => ?_
  match y with
  | 0 =>
    refine Gen.In.draw (N := 107) (by decide) fun x hx => ?_
    match x with
    | 0 => exact (expr1_in.plus hb).up.more (by decide) (by decide)
    | 1 => exact ((expr1_in.plus hb).plus hb).up.more (by decide) (by decide)
    | 2 => exact (expr1_in.plus hb).up.more (by decide) (by decide)
    | 3 => exact (hb.plus expr1_in).up.more (by decide) (by decide)
    | 4 => exact (((hm2.plus hm).plus hm).plus hb).up.more (by decide) (by decide)
    | x + 5 =>
      refine Gen.In.draw (N := 106) (by decide) fun z hz => ?_
      match z with
      | 0 => exact hb.more (by decide) (by decide)
      | z + 1 => exact (Gen.In.draw (by decide) fun _ _ => Gen.In.draw (by decide) fun _ _ => hb.up).more (by decide) (by decide)
  | y + 1 => exact hs.more (by decide) (by decide)
theorem stmt2_in : stmt2G.In 453 139 := by
  have hb := block_in stmt1_in
  have hs := simple_in expr2_in (expr1_in.more (by decide) (by decide)) (by decide)
  have hm := maybe_in expr1_in (by decide)
  have hm2 := maybe_in expr2_in (by decide)
  refine Gen.In.draw (N := 452) (by decide) fun y hy => ?_
  match y with
  | 0 =>
    refine Gen.In.draw (N := 451) (by decide) fun x hx => ?_
    match x with
    | 0 => exact (expr1_in.plus hb).up.more (by decide) (by decide)
    | 1 => exact ((expr1_in.plus hb).plus hb).up.more (by decide) (by decide)
    | 2 => exact (expr1_in.plus hb).up.more (by decide) (by decide)
    | 3 => exact (hb.plus expr1_in).up.more (by decide) (by decide)
    | 4 => exact (((hm2.plus hm).plus hm).plus hb).up.more (by decide) (by decide)
    | x + 5 =>
      refine Gen.In.draw (N := 450) (by decide) fun z hz => ?_
      match z with
      | 0 => exact hb.more (by decide) (by decide)
      | z + 1 => exact (Gen.In.draw (by decide) fun _ _ => Gen.In.draw (by decide) fun _ _ => hb.up).more (by decide) (by decide)
  | y + 1 => exact hs.more (by decide) (by decide)
theorem stmts_in : ∀ d, (stmtsG d).In 453 139
  | 0 => stmt0_in.more (by decide) (by decide)
  | 1 => stmt1_in.more (by decide) (by decide)
  | _ + 2 => stmt2_in
theorem expr12_in {d : Nat} (h : d < 2) : (exprG (1 + d)).In 43 13 := by
  match d, h with
  | 0, _ => exact expr1_in.more (by decide) (by decide)
  | 1, _ => exact expr2_in
theorem item_in : itemG.In 952 293 := by
  have he := expr1_in
  refine Gen.In.draw (N := 951) (by decide) fun d hd => Gen.In.draw (N := 950) (by decide) fun x hx => ?_
  have hb := block_in (stmts_in (1 + d))
  match x with
  | 0 => exact (Gen.In.draw (by decide) fun _ _ => hb.up).more (by decide) (by decide)
  | 1 => exact (expr12_in hd).up.more (by decide) (by decide)
  | 2 => exact hb.up.more (by decide) (by decide)
  | 3 => exact (he.plus he).up.more (by decide) (by decide)
  | 4 => exact ((he.plus he).plus hb).up.more (by decide) (by decide)
  | 5 =>
    refine (Gen.In.draw (N := 2 + 908) (M := 293) (by decide) fun n hn => ?_).more (by decide) (by decide)
    refine Gen.In.bind (M1 := 2) (fun a ha => ?_) ((one_in (by decide)).upto (m := 2) (by omega))
    exact Gen.In.draw (N := 907) (by decide) fun _ _ => Gen.In.bind (f := fun b => .ret (a + b + 1)) (N2 := 0) (M2 := 293) (fun b hb => show a + b + 1 ≤ 293 by omega) hb
  | 6 => exact (one_in (by decide)).more (by decide) (by decide)
  | x + 7 => exact ((expr12_in hd).plus hb).up.more (by decide) (by decide)
theorem prog_in : progG.In 2857 880 := Gen.In.draw (by decide) fun n hn => (item_in.upto (m := 3) (by omega)).up
end Go.Proofs.Ytlabmboedjnpmaa
