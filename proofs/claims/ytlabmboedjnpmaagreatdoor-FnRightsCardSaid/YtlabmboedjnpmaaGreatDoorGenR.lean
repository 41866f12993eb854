/- Several texts in one (printed by a program): GenPure, GenIn, LcgPure. -/
import Derived.Test.YtlabmboedjnpmaaGreatDoorPureR
/-! GenPure -/
namespace Go.Proofs.YtlabmboedjnpmaaGreatDoor
open Go.RowKit
set_option linter.unusedVariables false

/-- A draw: a number below n is chosen, then it goes on; at the end a number. -/
inductive Gen : Type where
  | ret (a : Nat)
  | draw (n : Nat) (k : Nat → Gen)
def Gen.bind : Gen → (Nat → Gen) → Gen
  | .ret a, f => f a
  | .draw n k, f => .draw n fun x => Gen.bind (k x) f
/-- What it gives, and the state behind it. -/
def Gen.run {S : Type} (b : S → Nat) (t : S → S) : Gen → S → Nat × S
  | .ret a, s => (a, s)
  | .draw n k, s => Gen.run b t (k (b s % n)) (t s)
theorem Gen.run_ret {S : Type} (b : S → Nat) (t : S → S) (a : Nat) (s : S) : Gen.run b t (.ret a) s = (a, s) := rfl
theorem Gen.run_draw {S : Type} (b : S → Nat) (t : S → S) (n : Nat) (k : Nat → Gen) (s : S) : Gen.run b t (.draw n k) s = Gen.run b t (k (b s % n)) (t s) := rfl
theorem Gen.run_bind {S : Type} (b : S → Nat) (t : S → S) (f : Nat → Gen) : ∀ (g : Gen) (s : S), Gen.run b t (g.bind f) s = Gen.run b t (f (Gen.run b t g s).1) (Gen.run b t g s).2
  | .ret _, _ => rfl
  | .draw _ k, s => Gen.run_bind b t f (k (b s % _)) (t s)
/-- At most N choices, and at most M comes out. -/
def Gen.In : Gen → Nat → Nat → Prop
  | .ret a, _, M => a ≤ M
  | .draw n k, N, M => 0 < n ∧ 0 < N ∧ ∀ x, x < n → Gen.In (k x) (N - 1) M
theorem Gen.In.more : ∀ {g : Gen} {N M N' M' : Nat}, g.In N M → N ≤ N' → M ≤ M' → g.In N' M'
  | .ret _, _, _, _, _, h, _, hM => Nat.le_trans h hM
  | .draw _ _, _, _, _, _, h, hN, hM => ⟨h.1, Nat.lt_of_lt_of_le h.2.1 hN, fun x hx => Gen.In.more (h.2.2 x hx) (Nat.sub_le_sub_right hN 1) hM⟩
theorem Gen.In.bind {f : Nat → Gen} {N2 M2 : Nat} {M1 : Nat} (hf : ∀ a, a ≤ M1 → (f a).In N2 M2) : ∀ {g : Gen} {N1 : Nat}, g.In N1 M1 → (g.bind f).In (N1 + N2) M2
  | .ret a, N1, h => (hf a h).more (Nat.le_add_left _ _) (Nat.le_refl _)
  | .draw n k, N1, h => ⟨h.1, Nat.lt_of_lt_of_le h.2.1 (Nat.le_add_right _ _), fun x hx => by
      have e : N1 + N2 - 1 = (N1 - 1) + N2 := by have := h.2.1; omega
      rw [e]
      exact Gen.In.bind hf (h.2.2 x hx)⟩
/-- k steps -/
def iterS {S : Type} (t : S → S) : Nat → S → S
  | 0, s => s
  | k + 1, s => iterS t k (t s)
theorem Gen.In.run {S : Type} (b : S → Nat) (t : S → S) : ∀ {g : Gen} {N M : Nat} (h : g.In N M) (s : S), (Gen.run b t g s).1 ≤ M ∧ ∃ k, k ≤ N ∧ (Gen.run b t g s).2 = iterS t k s
  | .ret _, N, _, h, s => ⟨h, 0, Nat.zero_le _, rfl⟩
  | .draw n k, N, M, h, s => by
      have hx := h.2.2 (b s % n) (Nat.mod_lt _ h.1)
      obtain ⟨h1, j, hj, h2⟩ := Gen.In.run b t hx (t s)
      exact ⟨h1, j + 1, by have := h.2.1; omega, h2⟩
/-- Two kinds of states, one leading to the other: the same comes out. -/
theorem Gen.run_map {S T : Type} (b : S → Nat) (t : S → S) (b' : T → Nat) (t' : T → T) (r : S → T) (I : S → Prop) (hI : ∀ s, I s → I (t s)) (hb : ∀ s, I s → b' (r s) = b s) (ht : ∀ s, I s → t' (r s) = r (t s)) :
    ∀ (g : Gen) (s : S), I s → Gen.run b' t' g (r s) = ((Gen.run b t g s).1, r (Gen.run b t g s).2)
  | .ret _, _, _ => rfl
  | .draw n k, s, h => by
      rw [Gen.run_draw, Gen.run_draw, hb s h, ht s h]
      exact Gen.run_map b t b' t' r I hI hb ht (k (b s % n)) (t s) (hI s h)
/-- one more -/
def Gen.up (g : Gen) : Gen := g.bind fun a => .ret (a + 1)
def Gen.plus (g h : Gen) : Gen := g.bind fun a => h.bind fun b => .ret (a + b)
/-- n of them, what they give together -/
def Gen.many (g : Gen) : Nat → Gen
  | 0 => .ret 0
  | n + 1 => g.plus (g.many n)
theorem Gen.In.up {g : Gen} {N M : Nat} (h : g.In N M) : g.up.In N (M + 1) := Gen.In.bind (f := fun a => .ret (a + 1)) (N2 := 0) (M2 := M + 1) (fun a ha => show a + 1 ≤ M + 1 from Nat.succ_le_succ ha) h
theorem Gen.In.plus {g h : Gen} {N M N' M' : Nat} (hg : g.In N M) (hh : h.In N' M') : (g.plus h).In (N + N') (M + M') :=
  Gen.In.bind (f := fun a => h.bind fun b => .ret (a + b)) (fun a ha => Gen.In.bind (f := fun b => .ret (a + b)) (N2 := 0) (M2 := M + M') (fun b hb => show a + b ≤ M + M' from Nat.add_le_add ha hb) hh) hg
theorem Gen.In.many {g : Gen} {N M : Nat} (h : g.In N M) : ∀ n, (g.many n).In (n * N) (n * M)
  | 0 => Nat.zero_le _
  | n + 1 => by rw [Nat.add_one_mul, Nat.add_one_mul, Nat.add_comm (n * N), Nat.add_comm (n * M)]; exact h.plus (Gen.In.many h n)
theorem Gen.In.upto {g : Gen} {N M n m : Nat} (h : g.In N M) (hn : n ≤ m) : (g.many n).In (m * N) (m * M) := (h.many n).more (Nat.mul_le_mul_right _ hn) (Nat.mul_le_mul_right _ hn)

/-- one node, behind one choice below n -/
def oneG (n : Nat) : Gen := .draw n fun _ => .ret 1
def leafG : Gen := .draw 7 fun x => match x with
  | 0 => oneG 9
  | 1 => oneG 7
  | 2 => .draw 2 fun y => match y with
    | 0 => oneG 6
    | _ => oneG 11
  | _ => oneG 11
/-- f1, f2: expressions one and two less deep -/
def lvalueG (f1 f2 : Gen) : Gen := .draw 4 fun x => match x with
  | 0 => .draw 11 fun _ => f1.up
  | 1 => f2.up
  | _ => oneG 11
def listG (f : Gen) (least n : Nat) : Gen := .draw n fun x => f.many (least + x)
def stepK (f1 f2 f3 : Gen) (x : Nat) : Gen := match x with
  | 0 => leafG
  | 1 => lvalueG f1 f2
  | 2 => f1.up
  | 3 => .draw 11 fun _ => (listG f1 0 4).up
  | 4 => .draw 5 fun _ => (listG f2 0 4).up
  | 5 => (lvalueG f2 f3).up
  | 6 => (lvalueG f2 f3).up
  | 7 => .draw 3 fun _ => f1.up
  | 8 => .draw 3 fun _ => f1.up
  | 9 => .draw 11 fun _ => (listG f1 1 2).up
  | 10 => ((f1.plus f1).plus f1).up
  | 11 => .draw 3 fun _ => ((lvalueG f2 f3).plus f1).up
  | _ => .draw 21 fun _ => (f1.plus f1).up
def stepG (f1 f2 f3 : Gen) : Gen := .draw 2 fun _ => .draw 16 (stepK f1 f2 f3)
def expr1G : Gen := stepG leafG leafG leafG
def expr2G : Gen := stepG expr1G leafG leafG
def expr3G : Gen := stepG expr2G expr1G leafG
def expr4G : Gen := stepG expr3G expr2G expr1G
def exprG : Nat → Gen
  | 0 => leafG
  | 1 => expr1G
  | 2 => expr2G
  | 3 => expr3G
  | _ => expr4G
theorem exprG_step : ∀ d, d < 4 → exprG (d + 1) = stepG (exprG d) (exprG (d - 1)) (exprG (d - 2))
  | 0, _ => rfl
  | 1, _ => rfl
  | 2, _ => rfl
  | 3, _ => rfl
  | d + 4, h => by omega
def blockG (s : Gen) : Gen := .draw 3 fun x => (s.many x).up
def maybeK (f : Gen) (x : Nat) : Gen := match x with
  | 0 => .ret 1
  | _ => f
def maybeG (f : Gen) : Gen := .draw 3 (maybeK f)
/-- behind the rows of what is printed: a is their number of nodes -/
def printK (f1 : Gen) (a y : Nat) : Gen := match y with
  | 0 => .draw 3 fun _ => f1.bind fun b => .ret (a + b + 1)
  | _ => .ret (a + 1)
/-- f: expressions; f1: one less deep -/
def printG (f f1 : Gen) : Gen := .draw 2 fun o => (listG f o (4 - o)).bind fun a => .draw 3 (printK f1 a)
def noteK (f : Gen) (y : Nat) : Gen := match y with
  | 0 => oneG 3
  | _ => f.up
def simpleK (f f1 : Gen) (x : Nat) : Gen := match x with
  | 0 => printG f f1
  | 1 => printG f f1
  | 2 => oneG 3
  | 3 => .draw 2 fun _ => (listG f 0 2).up
  | 4 => .draw 11 fun _ => (listG f1 0 3).up
  | 5 => .draw 2 (noteK f)
  | _ => f.up
def simpleG (f f1 : Gen) : Gen := .draw 9 (simpleK f f1)
def forK (s : Gen) (z : Nat) : Gen := match z with
  | 0 => blockG s
  | _ => .draw 11 fun _ => .draw 11 fun _ => (blockG s).up
/-- sm: without blocks; s: one less deep -/
def stmtK (s : Gen) (x : Nat) : Gen := match x with
  | 0 => (expr1G.plus (blockG s)).up
  | 1 => ((expr1G.plus (blockG s)).plus (blockG s)).up
  | 2 => (expr1G.plus (blockG s)).up
  | 3 => ((blockG s).plus expr1G).up
  | 4 => ((((maybeG expr2G).plus (maybeG expr1G)).plus (maybeG expr1G)).plus (blockG s)).up
  | _ => .draw 2 (forK s)
def stmtY (sm s : Gen) (y : Nat) : Gen := match y with
  | 0 => .draw 6 (stmtK s)
  | _ => sm
def stmtG (sm s : Gen) : Gen := .draw 3 (stmtY sm s)
def stmt0G : Gen := simpleG leafG leafG
def stmt1G : Gen := stmtG (simpleG expr1G leafG) stmt0G
def stmt2G : Gen := stmtG (simpleG expr2G expr1G) stmt1G
def stmtsG : Nat → Gen
  | 0 => stmt0G
  | 1 => stmt1G
  | _ => stmt2G
/-- e: expressions; b: blocks -/
def itemK (e b : Gen) (x : Nat) : Gen := match x with
  | 0 => .draw 2 fun _ => b.up
  | 1 => e.up
  | 2 => b.up
  | 3 => (expr1G.plus expr1G).up
  | 4 => ((expr1G.plus expr1G).plus b).up
  | 5 => .draw 3 fun n => ((oneG 11).many n).bind fun a => .draw 3 fun _ => b.bind fun c => .ret (a + c + 1)
  | 6 => oneG 2
  | _ => (e.plus b).up
def itemG : Gen := .draw 2 fun d => .draw 8 (itemK (exprG (1 + d)) (blockG (stmtsG (1 + d))))
/-- a round of a program, and of an expression of some size -/
def progG : Gen := .draw 4 fun n => (itemG.many n).up
def someG : Gen := .draw 4 fun d => exprG (1 + d)
end Go.Proofs.YtlabmboedjnpmaaGreatDoor
/-! GenIn -/
namespace Go.Proofs.YtlabmboedjnpmaaGreatDoor
open Go.RowKit
set_option linter.unusedVariables false

theorem one_in {n : Nat} (h : 0 < n) : (oneG n).In 1 1 := ⟨h, Nat.one_pos, fun x _ => show 1 ≤ 1 from Nat.le_refl _⟩
theorem Gen.In.draw {n : Nat} {k : Nat → Gen} {N M : Nat} (hn : 0 < n) (h : ∀ x, x < n → (k x).In N M) : (Gen.draw n k).In (N + 1) M := ⟨hn, Nat.succ_pos _, h⟩
theorem leaf_in : leafG.In 3 1 := by
  refine Gen.In.draw (N := 2) (by decide) fun x hx => ?_
  match x with
  | 0 => exact (one_in (by decide)).more (by decide) (by decide)
  | 1 => exact (one_in (by decide)).more (by decide) (by decide)
  | 2 =>
    refine Gen.In.draw (N := 1) (by decide) fun y hy => ?_
    match y with
    | 0 => exact one_in (by decide)
    | y + 1 => exact one_in (by decide)
  | x + 3 => exact (one_in (by decide)).more (by decide) (by decide)
theorem lvalue_in {f1 f2 : Gen} {N M : Nat} (h1 : f1.In N M) (h2 : f2.In N M) : (lvalueG f1 f2).In (N + 2) (M + 1) := by
  refine Gen.In.draw (N := N + 1) (by decide) fun x hx => ?_
  match x with
  | 0 => exact Gen.In.draw (by decide) fun _ _ => h1.up
  | 1 => exact h2.up.more (by omega) (by omega)
  | x + 2 => exact (one_in (by decide)).more (by omega) (by omega)
theorem list_in {f : Gen} {least n N M m : Nat} (h : f.In N M) (hn : 0 < n) (hm : least + n ≤ m + 1) : (listG f least n).In (m * N + 1) (m * M) :=
  Gen.In.draw hn fun x hx => h.upto (by omega)
theorem step_in {f1 f2 f3 : Gen} {N M : Nat} (h1 : f1.In N M) (h2 : f2.In N M) (h3 : f3.In N M) (hN : 3 ≤ N) (hM : 1 ≤ M) : (stepG f1 f2 f3).In (3 * N + 4) (3 * M + 1) := by
  refine Gen.In.draw (N := 3 * N + 3) (by decide) fun _ _ => Gen.In.draw (N := 3 * N + 2) (by decide) fun x hx => ?_
  have hl := lvalue_in h1 h2
  have hl2 := lvalue_in h2 h3
  match x with
  | 0 => exact leaf_in.more (by omega) (by omega)
  | 1 => exact hl.more (by omega) (by omega)
  | 2 => exact h1.up.more (by omega) (by omega)
  | 3 => exact Gen.In.draw (by decide) fun _ _ => (list_in h1 (by decide) (by decide)).up
  | 4 => exact Gen.In.draw (by decide) fun _ _ => (list_in h2 (by decide) (by decide)).up
  | 5 => exact hl2.up.more (by omega) (by omega)
  | 6 => exact hl2.up.more (by omega) (by omega)
  | 7 => exact (Gen.In.draw (by decide) fun _ _ => h1.up).more (by omega) (by omega)
  | 8 => exact (Gen.In.draw (by decide) fun _ _ => h1.up).more (by omega) (by omega)
  | 9 => exact (Gen.In.draw (by decide) fun _ _ => (list_in (m := 2) h1 (by decide) (by decide)).up).more (by omega) (by omega)
  | 10 => exact ((h1.plus h1).plus h1).up.more (by omega) (by omega)
  | 11 => exact (Gen.In.draw (by decide) fun _ _ => (hl2.plus h1).up).more (by omega) (by omega)
  | x + 12 => exact (Gen.In.draw (by decide) fun _ _ => (h1.plus h1).up).more (by omega) (by omega)
theorem expr1_in : expr1G.In 13 4 := step_in leaf_in leaf_in leaf_in (by decide) (by decide)
theorem expr2_in : expr2G.In 43 13 := step_in expr1_in (leaf_in.more (by decide) (by decide)) (leaf_in.more (by decide) (by decide)) (by decide) (by decide)
theorem expr3_in : expr3G.In 133 40 := step_in expr2_in (expr1_in.more (by decide) (by decide)) (leaf_in.more (by decide) (by decide)) (by decide) (by decide)
theorem expr4_in : expr4G.In 403 121 := step_in expr3_in (expr2_in.more (by decide) (by decide)) (expr1_in.more (by decide) (by decide)) (by decide) (by decide)
theorem expr_in : ∀ d, (exprG d).In 403 121
  | 0 => leaf_in.more (by decide) (by decide)
  | 1 => expr1_in.more (by decide) (by decide)
  | 2 => expr2_in.more (by decide) (by decide)
  | 3 => expr3_in.more (by decide) (by decide)
  | _ + 4 => expr4_in
theorem some_in : someG.In 404 121 := Gen.In.draw (by decide) fun d _ => expr_in _
theorem block_in {s : Gen} {N M : Nat} (h : s.In N M) : (blockG s).In (2 * N + 1) (2 * M + 1) := Gen.In.draw (by decide) fun x hx => (h.upto (by omega)).up
theorem maybe_in {f : Gen} {N M : Nat} (h : f.In N M) (hM : 1 ≤ M) : (maybeG f).In (N + 1) M := by
  refine Gen.In.draw (by decide) fun x hx => ?_
  match x with
  | 0 => exact hM
  | x + 1 => exact h
theorem print_in {f f1 : Gen} {N M : Nat} (h : f.In N M) (h1 : f1.In N M) : (printG f f1).In (4 * N + 4) (4 * M + 1) := by
  refine (Gen.In.draw (N := 4 * N + 3) (by decide) fun o ho => ?_)
  have e := list_in (f := f) (least := o) (n := 4 - o) (m := 3) h (by omega) (by omega)
  refine Gen.In.more (Gen.In.bind (N2 := N + 2) (M2 := 4 * M + 1) (fun a ha => ?_) e) (by omega) (by omega)
  refine Gen.In.draw (N := N + 1) (by decide) fun y hy => ?_
  match y with
  | 0 => exact Gen.In.draw (N := N) (by decide) fun _ _ => Gen.In.bind (f := fun b => .ret (a + b + 1)) (N2 := 0) (M2 := 4 * M + 1) (fun b hb => show a + b + 1 ≤ 4 * M + 1 by omega) h1
  | y + 1 => exact show a + 1 ≤ 4 * M + 1 by omega
theorem simple_in {f f1 : Gen} {N M : Nat} (h : f.In N M) (h1 : f1.In N M) (hM : 1 ≤ M) : (simpleG f f1).In (4 * N + 5) (4 * M + 1) := by
  have hp := print_in h h1
  refine Gen.In.draw (N := 4 * N + 4) (by decide) fun x hx => ?_
  match x with
  | 0 => exact hp
  | 1 => exact hp
  | 2 => exact (one_in (by decide)).more (by omega) (by omega)
  | 3 => exact (Gen.In.draw (by decide) fun _ _ => (list_in (m := 1) h (by decide) (by decide)).up).more (by omega) (by omega)
  | 4 => exact (Gen.In.draw (by decide) fun _ _ => (list_in (m := 2) h1 (by decide) (by decide)).up).more (by omega) (by omega)
  | 5 =>
    refine (Gen.In.draw (N := N + 1) (M := M + 1) (by decide) fun y hy => ?_).more (by omega) (by omega)
    match y with
    | 0 => exact (one_in (by decide)).more (by omega) (by omega)
    | y + 1 => exact h.up.more (by omega) (by omega)
  | x + 6 => exact h.up.more (by omega) (by omega)
theorem stmt0_in : stmt0G.In 17 5 := simple_in leaf_in leaf_in (by decide)
theorem stmt1_in : stmt1G.In 109 33 := by
  have hb := block_in stmt0_in
  have hs := simple_in expr1_in (leaf_in.more (by decide) (by decide)) (by decide)
  have hm := maybe_in expr1_in (by decide)
  have hm2 := maybe_in expr2_in (by decide)
  refine Gen.In.draw (N := 108) (by decide) fun y hy => ?_
  match y with
  | 0 =>
    refine Gen.In.draw (N := 107) (by decide) fun x hx => ?_
    match x with
    | 0 => exact (expr1_in.plus hb).up.more (by decide) (by decide)
    | 1 => exact ((expr1_in.plus hb).plus hb).up.more (by decide) (by decide)
    | 2 => exact (expr1_in.plus hb).up.more (by decide) (by decide)
    | 3 => exact (hb.plus expr1_in).up.more (by decide) (by decide)
    | 4 => exact (((hm2.plus hm).plus hm).plus hb).up.more (by decide) (by decide)
    | x + 5 =>
      refine Gen.In.draw (N := 106) (by decide) fun z hz => ?_
      match z with
      | 0 => exact hb.more (by decide) (by decide)
      | z + 1 => exact (Gen.In.draw (by decide) fun _ _ => Gen.In.draw (by decide) fun _ _ => hb.up).more (by decide) (by decide)
  | y + 1 => exact hs.more (by decide) (by decide)
theorem stmt2_in : stmt2G.In 453 139 := by
  have hb := block_in stmt1_in
  have hs := simple_in expr2_in (expr1_in.more (by decide) (by decide)) (by decide)
  have hm := maybe_in expr1_in (by decide)
  have hm2 := maybe_in expr2_in (by decide)
  refine Gen.In.draw (N := 452) (by decide) fun y hy => ?_
  match y with
  | 0 =>
    refine Gen.In.draw (N := 451) (by decide) fun x hx => ?_
    match x with
    | 0 => exact (expr1_in.plus hb).up.more (by decide) (by decide)
    | 1 => exact ((expr1_in.plus hb).plus hb).up.more (by decide) (by decide)
    | 2 => exact (expr1_in.plus hb).up.more (by decide) (by decide)
    | 3 => exact (hb.plus expr1_in).up.more (by decide) (by decide)
    | 4 => exact (((hm2.plus hm).plus hm).plus hb).up.more (by decide) (by decide)
    | x + 5 =>
      refine Gen.In.draw (N := 450) (by decide) fun z hz => ?_
      match z with
      | 0 => exact hb.more (by decide) (by decide)
      | z + 1 => exact (Gen.In.draw (by decide) fun _ _ => Gen.In.draw (by decide) fun _ _ => hb.up).more (by decide) (by decide)
  | y + 1 => exact hs.more (by decide) (by decide)
theorem stmts_in : ∀ d, (stmtsG d).In 453 139
  | 0 => stmt0_in.more (by decide) (by decide)
  | 1 => stmt1_in.more (by decide) (by decide)
  | _ + 2 => stmt2_in
theorem expr12_in {d : Nat} (h : d < 2) : (exprG (1 + d)).In 43 13 := by
  match d, h with
  | 0, _ => exact expr1_in.more (by decide) (by decide)
  | 1, _ => exact expr2_in
theorem item_in : itemG.In 952 293 := by
  have he := expr1_in
  refine Gen.In.draw (N := 951) (by decide) fun d hd => Gen.In.draw (N := 950) (by decide) fun x hx => ?_
  have hb := block_in (stmts_in (1 + d))
  match x with
  | 0 => exact (Gen.In.draw (by decide) fun _ _ => hb.up).more (by decide) (by decide)
  | 1 => exact (expr12_in hd).up.more (by decide) (by decide)
  | 2 => exact hb.up.more (by decide) (by decide)
  | 3 => exact (he.plus he).up.more (by decide) (by decide)
  | 4 => exact ((he.plus he).plus hb).up.more (by decide) (by decide)
  | 5 =>
    refine (Gen.In.draw (N := 2 + 908) (M := 293) (by decide) fun n hn => ?_).more (by decide) (by decide)
    refine Gen.In.bind (M1 := 2) (fun a ha => ?_) ((one_in (by decide)).upto (m := 2) (by omega))
    exact Gen.In.draw (N := 907) (by decide) fun _ _ => Gen.In.bind (f := fun b => .ret (a + b + 1)) (N2 := 0) (M2 := 293) (fun b hb => show a + b + 1 ≤ 293 by omega) hb
  | 6 => exact (one_in (by decide)).more (by decide) (by decide)
  | x + 7 => exact ((expr12_in hd).plus hb).up.more (by decide) (by decide)
theorem prog_in : progG.In 2857 880 := Gen.In.draw (by decide) fun n hn => (item_in.upto (m := 3) (by omega)).up
end Go.Proofs.YtlabmboedjnpmaaGreatDoor
/-! LcgPure -/
namespace Go.Proofs.YtlabmboedjnpmaaGreatDoor
open Go.RowKit
set_option linter.unusedVariables false

def lcgN (n : Nat) : Nat := (n * 6364136223846793005 + 1442695040888963407) % 18446744073709551616
def iterF (f : Nat → Nat) : Nat → Nat → Nat
  | 0, n => n
  | k + 1, n => iterF f k (f n)
theorem iterF_zero (f : Nat → Nat) (n : Nat) : iterF f 0 n = n := rfl
theorem iterF_succ (f : Nat → Nat) (k n : Nat) : iterF f (k + 1) n = iterF f k (f n) := rfl
def iterN (k n : Nat) : Nat := iterF lcgN k n
def mS : Nat := 18446744073709551616
theorem iterN_zero (n : Nat) : iterN 0 n = n := iterF_zero lcgN n
theorem iterN_succ (k n : Nat) : iterN (k + 1) n = iterN k (lcgN n) := iterF_succ lcgN k n
theorem lcgN_lt (n : Nat) : lcgN n < mS := by unfold lcgN mS; exact Nat.mod_lt _ (by omega)
theorem iterN_lt (k : Nat) : ∀ n : Nat, n < mS → iterN k n < mS := by
  induction k with
  | zero => intro n h; rw [iterN_zero]; exact h
  | succ k ih => intro n h; rw [iterN_succ]; exact ih _ (lcgN_lt n)
theorem iterN_add (a : Nat) : ∀ b n : Nat, iterN (a + b) n = iterN b (iterN a n) := by
  induction a with
  | zero => intro b n; rw [Nat.zero_add, iterN_zero]
  | succ a ih => intro b n; rw [Nat.add_right_comm, iterN_succ, iterN_succ]; exact ih b (lcgN n)
/-- what 2^k steps do: a factor and a term -/
def acL : List (Nat × Nat) := [(6364136223846793005, 1442695040888963407), (7520897724310334953, 1876011003808476466), (18108194425815612945, 7401132627792533940), (13086856194709077281, 6566661184467396264), (10186629832379121217, 3646985772805368400), (10828933358287359105, 982119659650238624), (4910590176156014849, 10607473198416945472), (9908147928152388097, 6914523672464851584), (146241703003251713, 4689171378020353280), (7321387688379467777, 8103286608563669504), (12255457568021647361, 7710372194127975424), (9867978473775767553, 16043993925053589504), (5088048636545613825, 1993901509916512256), (2150478223927705601, 13175896319671181312), (9196835419631190017, 1993366741509554176), (5957860013156466689, 7241871532530761728), (10389140232424652801, 9829074100562493440), (13023643825678581761, 7211655632440131584), (288945459443007489, 14014807304630960128), (13413133364217511937, 15586959662575517696), (8991946233350193153, 5614651135149211648), (1986842707489718273, 10449321915693662208), (13772462672974970881, 17778722412968280064), (11399802156803424257, 4631015078550831104), (13559343778149433345, 14683519683525607424), (8604389488178757633, 14159509325327892480), (16938562998715285505, 4382386631181598720), (14349518013152100353, 5251965553014210560), (5928836310318972929, 14899444342342025216), (13010594125244792833, 10487453482519363584), (12186130195207421953, 17516142451218186240), (5925516316705292289, 2750482773444657152), (11851032633410584577, 5500965546889314304), (5255321193111617537, 11001931093778628608), (10510642386223235073, 3557118113847705600), (2574540698736918529, 7114236227695411200), (5149081397473837057, 14228472455390822400), (10298162794947674113, 10010200837072093184), (2149581516185796609, 1573657600434634752), (4299163032371593217, 3147315200869269504), (8598326064743186433, 6294630401738539008), (17196652129486372865, 12589260803477078016), (15946560185263194113, 6731777533244604416), (13446376296816836609, 13463555066489208832), (8446008519924121601, 8480366059268866048), (16892017039848243201, 16960732118537732096), (15337290005986934785, 15474720163365912576), (12227835938264317953, 12502696253022273536), (6008927802819084289, 6558648432334995456), (12017855605638168577, 13117296864669990912), (5588967137566785537, 7787849655630430208), (11177934275133571073, 15575699311260860416), (3909124476557590529, 12704654548812169216), (7818248953115181057, 6962565023914786816), (15636497906230362113, 13925130047829573632), (12826251738751172609, 9403516021949595648), (7205759403792793601, 360287970189639680), (14411518807585587201, 720575940379279360), (10376293541461622785, 1441151880758558720), (2305843009213693953, 2882303761517117440), (4611686018427387905, 5764607523034234880), (9223372036854775809, 11529215046068469760), (1, 4611686018427387904), (1, 9223372036854775808)]
def acN (k : Nat) : Nat × Nat := acL.getD k (0, 0)
theorem ac_step : ∀ k, k < 63 → acN (k + 1) = ((acN k).1 * (acN k).1 % 18446744073709551616, ((acN k).1 + 1) * (acN k).2 % 18446744073709551616) := by decide +kernel
theorem aff_two (a c x M : Nat) : (a * ((a * x + c) % M) + c) % M = ((a * a % M) * x + ((a + 1) * c % M)) % M := by
  have e1 : (a * ((a * x + c) % M) + c) % M = (a * (a * x + c) + c) % M := by
    rw [Nat.add_mod, Nat.mul_mod, Nat.mod_mod, ← Nat.mul_mod, ← Nat.add_mod]
  have e2 : ((a * a % M) * x + ((a + 1) * c % M)) % M = (a * a * x + (a + 1) * c) % M := by
    rw [Nat.add_mod, Nat.mul_mod, Nat.mod_mod, ← Nat.mul_mod, Nat.mod_mod, ← Nat.add_mod]
  rw [e1, e2]
  congr 1
  rw [Nat.mul_add, Nat.add_mul, Nat.one_mul, Nat.mul_assoc, Nat.add_assoc]
theorem iter_pow (k : Nat) : ∀ x : Nat, k < 64 → iterN (2 ^ k) x = ((acN k).1 * x + (acN k).2) % mS := by
  induction k with
  | zero =>
    intro x _
    have e1 : (acN 0).1 = 6364136223846793005 := by decide
    have e2 : (acN 0).2 = 1442695040888963407 := by decide
    rw [e1, e2, Nat.pow_zero, show (1 : Nat) = 0 + 1 from rfl, iterN_succ, iterN_zero]
    unfold lcgN mS
    rw [Nat.mul_comm x]
  | succ k ih =>
    intro x h
    have e := ac_step k (by omega)
    have e1 : (acN (k + 1)).1 = (acN k).1 * (acN k).1 % mS := by rw [e]; rfl
    have e2 : (acN (k + 1)).2 = ((acN k).1 + 1) * (acN k).2 % mS := by rw [e]; rfl
    rw [Nat.pow_succ, Nat.mul_two, iterN_add, ih _ (by omega), ih _ (by omega), aff_two, e1, e2]
theorem ac_facts : ∀ k, k < 64 → (acN k).1 % 2 ^ (k + 1) = 1 ∧ (acN k).2 % 2 ^ (k + 1) = 2 ^ k := by decide +kernel
theorem mS_pow : mS = 2 ^ 64 := by decide
theorem pow_dvd64 {k : Nat} (h : k ≤ 64) : 2 ^ k ∣ mS := by rw [mS_pow]; exact Nat.pow_dvd_pow 2 h
theorem step_pow {k : Nat} (h : k < 64) (x : Nat) : iterN (2 ^ k) x % 2 ^ (k + 1) = (x + 2 ^ k) % 2 ^ (k + 1) := by
  obtain ⟨h1, h2⟩ := ac_facts k h
  rw [iter_pow k x h, Nat.mod_mod_of_dvd _ (pow_dvd64 (show k + 1 ≤ 64 by omega)), Nat.add_mod, Nat.mul_mod, h1, h2, Nat.one_mul, Nat.mod_mod]
  conv => rhs; rw [Nat.add_mod]
  congr 1
  rw [Nat.mod_eq_of_lt (show 2 ^ k < 2 ^ (k + 1) by rw [Nat.pow_succ]; have := Nat.pow_pos (n := k) (show 0 < 2 by omega); omega)]
theorem next_bit (x t p : Nat) (hp : 0 < p) (h : x % p = t % p) : x % (p * 2) = t % (p * 2) ∨ (x + p) % (p * 2) = t % (p * 2) := by
  have ex : x % (p * 2) = x % p + p * (x / p % 2) := Nat.mod_mul
  have et : t % (p * 2) = t % p + p * (t / p % 2) := Nat.mod_mul
  have ey : (x + p) % (p * 2) = (x + p) % p + p * ((x + p) / p % 2) := Nat.mod_mul
  rw [Nat.add_mod_right, Nat.add_div_right _ hp] at ey
  rw [ex, et, ey, h]
  rcases Nat.mod_two_eq_zero_or_one (x / p) with a | a <;> rcases Nat.mod_two_eq_zero_or_one (t / p) with b | b
  · left; rw [a, b]
  · right; rw [b, show (x / p).succ % 2 = 1 by omega]
  · right; rw [b, show (x / p).succ % 2 = 0 by omega]
  · left; rw [a, b]
theorem lcg_reach_mod (x t k : Nat) : k ≤ 64 → ∃ n, iterN n x % 2 ^ k = t % 2 ^ k := by
  induction k with
  | zero => intro _; exact ⟨0, by rw [Nat.pow_zero, Nat.mod_one, Nat.mod_one]⟩
  | succ k ih =>
    intro h
    obtain ⟨n, hn⟩ := ih (by omega)
    rcases next_bit (iterN n x) t (2 ^ k) (Nat.pow_pos (show 0 < 2 by omega)) hn with h1 | h1
    · exact ⟨n, by rw [Nat.pow_succ]; exact h1⟩
    · exact ⟨n + 2 ^ k, by rw [iterN_add, step_pow (by omega), Nat.pow_succ]; exact h1⟩
theorem lcg_reach (x t : Nat) (hx : x < mS) (ht : t < mS) : ∃ n, iterN n x = t := by
  obtain ⟨n, hn⟩ := lcg_reach_mod x t 64 (Nat.le_refl _)
  refine ⟨n, ?_⟩
  have h1 := iterN_lt n x hx
  rw [mS_pow] at h1 ht
  rw [Nat.mod_eq_of_lt h1, Nat.mod_eq_of_lt ht] at hn
  exact hn

/-- the byte of a state -/
def byteN (n : Nat) : Nat := (n / 8589934592 ^^^ n / 35184372088832) % 256
theorem byteN_lt (n : Nat) : byteN n < 256 := Nat.mod_lt _ (by omega)
theorem ofInt_wrap (x : Int) : BitVec.ofInt 64 (IntKind.i64.wrap x) = BitVec.ofInt 64 x := by
  apply BitVec.eq_of_toNat_eq
  simp only [BitVec.toNat_ofInt]
  congr 1
  unfold IntKind.wrap
  simp [IntKind.bits, IntKind.signed]
  try omega
end Go.Proofs.YtlabmboedjnpmaaGreatDoor
