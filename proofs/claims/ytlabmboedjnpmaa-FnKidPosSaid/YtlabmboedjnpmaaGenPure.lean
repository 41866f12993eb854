/- How large what a draw of trees gives is, as plain data: choices, one behind the other. No program is in sight here. -/
import Derived.Test.YtlabmboedjnpmaaPure
namespace Go.Proofs.Ytlabmboedjnpmaa
open Go.RowKit
set_option linter.unusedVariables false

/-- A draw: a number below n is chosen, then it goes on; at the end a number. -/
inductive Gen : Type where
  | ret (a : Nat)
  | draw (n : Nat) (k : Nat → Gen)
def Gen.bind : Gen → (Nat → Gen) → Gen
  | .ret a, f => f a
  | .draw n k, f => .draw n fun x => Gen.bind (k x) f
/-- What it gives, and the state behind it. -/
def Gen.run {S : Type} (b : S → Nat) (t : S → S) : Gen → S → Nat × S
  | .ret a, s => (a, s)
  | .draw n k, s => Gen.run b t (k (b s % n)) (t s)
theorem Gen.run_ret {S : Type} (b : S → Nat) (t : S → S) (a : Nat) (s : S) : Gen.run b t (.ret a) s = (a, s) := rfl
theorem Gen.run_draw {S : Type} (b : S → Nat) (t : S → S) (n : Nat) (k : Nat → Gen) (s : S) : Gen.run b t (.draw n k) s = Gen.run b t (k (b s % n)) (t s) := rfl
theorem Gen.run_bind {S : Type} (b : S → Nat) (t : S → S) (f : Nat → Gen) : ∀ (g : Gen) (s : S), Gen.run b t (g.bind f) s = Gen.run b t (f (Gen.run b t g s).1) (Gen.run b t g s).2
  | .ret _, _ => rfl
  | .draw _ k, s => Gen.run_bind b t f (k (b s % _)) (t s)
/-- At most N choices, and at most M comes out. -/
def Gen.In : Gen → Nat → Nat → Prop
  | .ret a, _, M => a ≤ M
  | .draw n k, N, M => 0 < n ∧ 0 < N ∧ ∀ x, x < n → Gen.In (k x) (N - 1) M
theorem Gen.In.more : ∀ {g : Gen} {N M N' M' : Nat}, g.In N M → N ≤ N' → M ≤ M' → g.In N' M'
  | .ret _, _, _, _, _, h, _, hM => Nat.le_trans h hM
  | .draw _ _, _, _, _, _, h, hN, hM => ⟨h.1, Nat.lt_of_lt_of_le h.2.1 hN, fun x hx => Gen.In.more (h.2.2 x hx) (Nat.sub_le_sub_right hN 1) hM⟩
theorem Gen.In.bind {f : Nat → Gen} {N2 M2 : Nat} {M1 : Nat} (hf : ∀ a, a ≤ M1 → (f a).In N2 M2) : ∀ {g : Gen} {N1 : Nat}, g.In N1 M1 → (g.bind f).In (N1 + N2) M2
  | .ret a, N1, h => (hf a h).more (Nat.le_add_left _ _) (Nat.le_refl _)
  | .draw n k, N1, h => ⟨h.1, Nat.lt_of_lt_of_le h.2.1 (Nat.le_add_right _ _), fun x hx => by
      have e : N1 + N2 - 1 = (N1 - 1) + N2 := by have := h.2.1; omega
      rw [e]
      exact Gen.In.bind hf (h.2.2 x hx)⟩
/-- k steps -/
def iterS {S : Type} (t : S → S) : Nat → S → S
  | 0, s => s
  | k + 1, s => iterS t k (t s)
theorem Gen.In.run {S : Type} (b : S → Nat) (t : S → S) : ∀ {g : Gen} {N M : Nat} (h : g.In N M) (s : S), (Gen.run b t g s).1 ≤ M ∧ ∃ k, k ≤ N ∧ (Gen.run b t g s).2 = iterS t k s
  | .ret _, N, _, h, s => ⟨h, 0, Nat.zero_le _, rfl⟩
  | .draw n k, N, M, h, s => by
      have hx := h.2.2 (b s % n) (Nat.mod_lt _ h.1)
      obtain ⟨h1, j, hj, h2⟩ := Gen.In.run b t hx (t s)
      exact ⟨h1, j + 1, by have := h.2.1; omega, h2⟩
/-- Two kinds of states, one leading to the other: the same comes out. -/
theorem Gen.run_map {S T : Type} (b : S → Nat) (t : S → S) (b' : T → Nat) (t' : T → T) (r : S → T) (I : S → Prop) (hI : ∀ s, I s → I (t s)) (hb : ∀ s, I s → b' (r s) = b s) (ht : ∀ s, I s → t' (r s) = r (t s)) :
    ∀ (g : Gen) (s : S), I s → Gen.run b' t' g (r s) = ((Gen.run b t g s).1, r (Gen.run b t g s).2)
  | .ret _, _, _ => rfl
  | .draw n k, s, h => by
      rw [Gen.run_draw, Gen.run_draw, hb s h, ht s h]
      exact Gen.run_map b t b' t' r I hI hb ht (k (b s % n)) (t s) (hI s h)
/-- one more -/
def Gen.up (g : Gen) : Gen := g.bind fun a => .ret (a + 1)
def Gen.plus (g h : Gen) : Gen := g.bind fun a => h.bind fun b => .ret (a + b)
/-- n of them, what they give together -/
def Gen.many (g : Gen) : Nat → Gen
  | 0 => .ret 0
  | n + 1 => g.plus (g.many n)
theorem Gen.In.up {g : Gen} {N M : Nat} (h : g.In N M) : g.up.In N (M + 1) := Gen.In.bind (f := fun a => .ret (a + 1)) (N2 := 0) (M2 := M + 1) (fun a ha => show a + 1 ≤ M + 1 from Nat.succ_le_succ ha) h
theorem Gen.In.plus {g h : Gen} {N M N' M' : Nat} (hg : g.In N M) (hh : h.In N' M') : (g.plus h).In (N + N') (M + M') :=
  Gen.In.bind (f := fun a => h.bind fun b => .ret (a + b)) (fun a ha => Gen.In.bind (f := fun b => .ret (a + b)) (N2 := 0) (M2 := M + M') (fun b hb => show a + b ≤ M + M' from Nat.add_le_add ha hb) hh) hg
theorem Gen.In.many {g : Gen} {N M : Nat} (h : g.In N M) : ∀ n, (g.many n).In (n * N) (n * M)
  | 0 => Nat.zero_le _
  | n + 1 => by rw [Nat.add_one_mul, Nat.add_one_mul, Nat.add_comm (n * N), Nat.add_comm (n * M)]; exact h.plus (Gen.In.many h n)
theorem Gen.In.upto {g : Gen} {N M n m : Nat} (h : g.In N M) (hn : n ≤ m) : (g.many n).In (m * N) (m * M) := (h.many n).more (Nat.mul_le_mul_right _ hn) (Nat.mul_le_mul_right _ hn)

/-- one node, behind one choice below n -/
def oneG (n : Nat) : Gen := .draw n fun _ => .ret 1
def leafG : Gen := .draw 7 fun x => match x with
  | 0 => oneG 9
  | 1 => oneG 7
  | 2 => .draw 2 fun y => match y with
    | 0 => oneG 6
    | _ => oneG 11
  | _ => oneG 11
/-- f1, f2: expressions one and two less deep -/
def lvalueG (f1 f2 : Gen) : Gen := .draw 4 fun x => match x with
  | 0 => .draw 11 fun _ => f1.up
  | 1 => f2.up
  | _ => oneG 11
def listG (f : Gen) (least n : Nat) : Gen := .draw n fun x => f.many (least + x)
def stepK (f1 f2 f3 : Gen) (x : Nat) : Gen := match x with
  | 0 => leafG
  | 1 => lvalueG f1 f2
  | 2 => f1.up
  | 3 => .draw 11 fun _ => (listG f1 0 4).up
  | 4 => .draw 5 fun _ => (listG f2 0 4).up
  | 5 => (lvalueG f2 f3).up
  | 6 => (lvalueG f2 f3).up
  | 7 => .draw 3 fun _ => f1.up
  | 8 => .draw 3 fun _ => f1.up
  | 9 => .draw 11 fun _ => (listG f1 1 2).up
  | 10 => ((f1.plus f1).plus f1).up
  | 11 => .draw 3 fun _ => ((lvalueG f2 f3).plus f1).up
  | _ => .draw 21 fun _ => (f1.plus f1).up
def stepG (f1 f2 f3 : Gen) : Gen := .draw 2 fun _ => .draw 16 (stepK f1 f2 f3)
def expr1G : Gen := stepG leafG leafG leafG
def expr2G : Gen := stepG expr1G leafG leafG
def expr3G : Gen := stepG expr2G expr1G leafG
def expr4G : Gen := stepG expr3G expr2G expr1G
def exprG : Nat → Gen
  | 0 => leafG
  | 1 => expr1G
  | 2 => expr2G
  | 3 => expr3G
  | _ => expr4G
theorem exprG_step : ∀ d, d < 4 → exprG (d + 1) = stepG (exprG d) (exprG (d - 1)) (exprG (d - 2))
  | 0, _ => rfl
  | 1, _ => rfl
  | 2, _ => rfl
  | 3, _ => rfl
  | d + 4, h => by omega
def blockG (s : Gen) : Gen := .draw 3 fun x => (s.many x).up
def maybeK (f : Gen) (x : Nat) : Gen := match x with
  | 0 => .ret 1
  | _ => f
def maybeG (f : Gen) : Gen := .draw 3 (maybeK f)
/-- behind the rows of what is printed: a is their number of nodes -/
def printK (f1 : Gen) (a y : Nat) : Gen := match y with
  | 0 => .draw 3 fun _ => f1.bind fun b => .ret (a + b + 1)
  | _ => .ret (a + 1)
/-- f: expressions; f1: one less deep -/
def printG (f f1 : Gen) : Gen := .draw 2 fun o => (listG f o (4 - o)).bind fun a => .draw 3 (printK f1 a)
def noteK (f : Gen) (y : Nat) : Gen := match y with
  | 0 => oneG 3
  | _ => f.up
def simpleK (f f1 : Gen) (x : Nat) : Gen := match x with
  | 0 => printG f f1
  | 1 => printG f f1
  | 2 => oneG 3
  | 3 => .draw 2 fun _ => (listG f 0 2).up
  | 4 => .draw 11 fun _ => (listG f1 0 3).up
  | 5 => .draw 2 (noteK f)
  | _ => f.up
def simpleG (f f1 : Gen) : Gen := .draw 9 (simpleK f f1)
def forK (s : Gen) (z : Nat) : Gen := match z with
  | 0 => blockG s
  | _ => .draw 11 fun _ => .draw 11 fun _ => (blockG s).up
/-- sm: without blocks; s: one less deep -/
def stmtK (s : Gen) (x : Nat) : Gen := match x with
  | 0 => (expr1G.plus (blockG s)).up
  | 1 => ((expr1G.plus (blockG s)).plus (blockG s)).up
  | 2 => (expr1G.plus (blockG s)).up
  | 3 => ((blockG s).plus expr1G).up
  | 4 => ((((maybeG expr2G).plus (maybeG expr1G)).plus (maybeG expr1G)).plus (blockG s)).up
  | _ => .draw 2 (forK s)
def stmtY (sm s : Gen) (y : Nat) : Gen := match y with
  | 0 => .draw 6 (stmtK s)
  | _ => sm
def stmtG (sm s : Gen) : Gen := .draw 3 (stmtY sm s)
def stmt0G : Gen := simpleG leafG leafG
def stmt1G : Gen := stmtG (simpleG expr1G leafG) stmt0G
def stmt2G : Gen := stmtG (simpleG expr2G expr1G) stmt1G
def stmtsG : Nat → Gen
  | 0 => stmt0G
  | 1 => stmt1G
  | _ => stmt2G
/-- e: expressions; b: blocks -/
def itemK (e b : Gen) (x : Nat) : Gen := match x with
  | 0 => .draw 2 fun _ => b.up
  | 1 => e.up
  | 2 => b.up
  | 3 => (expr1G.plus expr1G).up
  | 4 => ((expr1G.plus expr1G).plus b).up
  | 5 => .draw 3 fun n => ((oneG 11).many n).bind fun a => .draw 3 fun _ => b.bind fun c => .ret (a + c + 1)
  | 6 => oneG 2
  | _ => (e.plus b).up
def itemG : Gen := .draw 2 fun d => .draw 8 (itemK (exprG (1 + d)) (blockG (stmtsG (1 + d))))
/-- a round of a program, and of an expression of some size -/
def progG : Gen := .draw 4 fun n => (itemG.many n).up
def someG : Gen := .draw 4 fun d => exprG (1 + d)
end Go.Proofs.Ytlabmboedjnpmaa
