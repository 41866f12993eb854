/- A slice of tokens that the call itself has made: append to it. -/
import Derived.Test.YtdajhcammnlonaaDoorTokRow
namespace Go.Proofs.YtdajhcammnlonaaDoor
open Go.RowKit
set_option linter.unusedVariables false

def tokCells : List PTok → List Value
  | [] => []
  | t :: r => .int .i64 t.kind :: .string t.text :: .int .i64 t.at_ :: tokCells r
theorem tokCells_app : ∀ (a b : List PTok), tokCells (a ++ b) = tokCells a ++ tokCells b
  | [], _ => rfl
  | t :: a, b => by simp only [List.cons_append, tokCells, tokCells_app a b]
theorem tokCells_len : ∀ (l : List PTok), (tokCells l).length = l.length * 3
  | [] => rfl
  | t :: l => by simp only [tokCells, List.length_cons, tokCells_len l]; omega
theorem tokCells_get : ∀ {l : List PTok} {i : Nat} {t : PTok}, l[i]? = some t → (tokCells l)[i * 3]? = some (.int .i64 t.kind) ∧ (tokCells l)[i * 3 + 1]? = some (.string t.text) ∧ (tokCells l)[i * 3 + 2]? = some (.int .i64 t.at_)
  | [], _, _, h => by simp at h
  | u :: l, 0, t, h => by
    simp only [List.getElem?_cons_zero, Option.some.injEq] at h
    subst h
    exact ⟨rfl, rfl, rfl⟩
  | u :: l, i + 1, t, h => by
    rw [List.getElem?_cons_succ] at h
    obtain ⟨h0, h1, h2⟩ := tokCells_get h
    have e : (i + 1) * 3 = i * 3 + 3 := by omega
    refine ⟨?_, ?_, ?_⟩
    · rw [e]; exact h0
    · rw [e, show i * 3 + 3 + 1 = i * 3 + 1 + 3 by omega]; exact h1
    · rw [e, show i * 3 + 3 + 2 = i * 3 + 2 + 3 by omega]; exact h2
def OwnT (w : World) (base : Nat) (v : Value) (l : List PTok) : Prop := w.ownsRow base 36 3 v l.length (tokCells l)
theorem OwnT.alloc {w : World} {base : Nat} {v : Value} {l : List PTok} (h : OwnT w base v l) (o : Obj) : OwnT (w.alloc o) base v l := World.ownsRow.alloc h o
theorem OwnT.start (w : World) {base : Nat} (hb : base ≤ w.heap.size) : OwnT (w.alloc (.cells #[] 36)) base (.slice (some ⟨w.heap.size, 0, none⟩) 0 0) [] :=
  World.ownsRow_lit w #[] 0 hb (Nat.zero_le _) rfl
theorem OwnT.drewN {w : World} {base : Nat} {v : Value} {l : List PTok} (h : OwnT w base v l) (n : Nat) : OwnT (w.drewN n) base v l := h
theorem OwnT.below {w w' : World} {B base : Nat} {v : Value} {l : List PTok} (h : OwnT w base v l) (hb : Below B w w') (hB : w.heap.size ≤ B) : OwnT w' base v l := by
  refine ⟨h.1, ?_⟩
  rcases h.2 with h0 | ⟨g, cap, cur, hv, hb1, hg, r⟩
  · exact .inl h0
  · exact .inr ⟨g, cap, cur, hv, hb1, (hb.block g (by have := (Array.getElem?_eq_some_iff.1 hg).1; omega)).trans hg, r⟩
theorem one_newt (w : World) (t : PTok) (e : TypeId) : ∀ j b, (tokCells [t])[j]? = some b → (w.alloc (.cells #[.int .i64 t.kind, .string t.text, .int .i64 t.at_] e)).cell? ⟨w.heap.size, j, none⟩ = some b := by
  intro j b h
  rw [World.cell?_alloc_new]
  match j, h with
  | 0, h => exact h
  | 1, h => exact h
  | 2, h => exact h
theorem app_tok {ops : Array Oper} {rest : List Oper} {o : Oper} {a : Act} {Q : Exit → Act → World → Prop} {w : World} (hgd : o.guard = none) (s x : Operand)
    (ho : o.op = .call { callee := .builtin .append, args := #[s, x], argTypes := #[46, 46] }) (base : Nat) (v : Value) (l : List PTok) (hs : a.eval s = v) (hown : OwnT w base v l)
    (g c : Nat) (t : PTok) (hx : a.eval x = .slice (some ⟨g, 0, none⟩) 1 c) (hnew : ∀ j b, (tokCells [t])[j]? = some b → w.cell? ⟨g, j, none⟩ = some b)
    (hsz : l.length + 1 ≤ 1048576) (hbase : base ≤ w.heap.size)
    (h : ∀ v' w', OwnT w' base v' (l ++ [t]) → Below base w w' → w.grownBy w' v.ownBlock → v' ≠ .slice none 0 0 → wpList Tryd.prog ops Q rest (a.put o.dst v') w') : wpList Tryd.prog ops Q (o :: rest) a w := by
  obtain ⟨i0, hi, hz0, hz1, hz2⟩ := info_parts info_tok
  refine wpList_append_own w hgd s x 46 ho base 36 i0 _ 3 32 Tryd.underlying46 hi hz0 hz1 hz2 rfl (by decide) v l.length _ hs hown ⟨g, 0, none⟩ 1 c (tokCells [t]) hx rfl ?_ ?_ (by unfold maxLen; omega) (by omega) hbase ?_
  · intro j u hu
    have e : (⟨g, 0, none⟩ : Addr).add j = ⟨g, j, none⟩ := by unfold Addr.add; split <;> simp_all
    rw [e]
    exact hnew j u hu
  · intro u hu
    simp [tokCells] at hu
    rcases hu with rfl | rfl | rfl <;> rfl
  · intro v' w' h2 h3 h4
    refine h v' w' ?_ ?_ h3 (fun c => absurd (h4.1 c).2 (by decide))
    · unfold OwnT
      rw [List.length_append, tokCells_app]
      exact h2
    · exact (Below.refl base w).grown h3 hbase (fun k hk => (hown.lt k hk).1)
theorem Has.grown {w w' : World} {g : Nat} {t : TypeId} {cs : Array Value} {row : Option Nat} (h : Has w g t cs) (hg : w.grownBy w' row) (hne : some g ≠ row) : Has w' g t cs := (hg.block g h.lt hne).trans h
theorem OwnT.lt {w : World} {base : Nat} {v : Value} {l : List PTok} (h : OwnT w base v l) : ∀ k, v.ownBlock = some k → base ≤ k ∧ k < w.heap.size := World.ownsRow.lt h
theorem OwnT.open {w : World} {base : Nat} {v : Value} {l : List PTok} (h : OwnT w base v l) : (v = .slice none 0 0 ∧ l = []) ∨ ∃ g cap, v = .slice (some ⟨g, 0, none⟩) l.length cap ∧ base ≤ g ∧ g < w.heap.size ∧ l.length ≤ cap ∧ cap ≤ maxLen ∧ ∀ i x, (tokCells l)[i]? = some x → w.cell? ⟨g, i, none⟩ = some x := by
  obtain ⟨_, h2⟩ := h
  rcases h2 with ⟨rfl, h0⟩ | ⟨g, cap, cur, rfl, hb, hh, q1, q2, hsz, htk⟩
  · exact .inl ⟨rfl, List.eq_nil_of_length_eq_zero h0⟩
  · refine .inr ⟨g, cap, rfl, hb, (Array.getElem?_eq_some_iff.1 hh).1, q1, q2, fun i x hx => ?_⟩
    have hi := (List.getElem?_eq_some_iff.1 hx).1
    rw [tokCells_len] at hi
    rw [cell_of_row w g i cur _ _ hh]
    have h3 : (cur.toList.take (l.length * 3))[i]? = (tokCells l)[i]? := by rw [htk]
    rw [List.getElem?_take_of_lt hi, Array.getElem?_toList, hx] at h3
    exact h3
theorem OwnT.toks {w : World} {base : Nat} {v : Value} {l : List PTok} (h : OwnT w base v l) (hl : ∀ t ∈ l, okInt t.kind ∧ t.text.size ≤ maxLen ∧ okInt t.at_) : ToksIn w w.heap.size v l ∧ FromOn base v := by
  rcases h.open with ⟨rfl, rfl⟩ | ⟨g, cap, rfl, hb, hg, q1, q2, hc⟩
  · exact ⟨⟨none, 0, rfl, Nat.le_refl _, Nat.zero_le _, fun h => absurd h (by simp), hl⟩, fun k hk => by cases hk⟩
  · refine ⟨⟨_, _, rfl, q1, q2, fun _ => ⟨g, 0, rfl, hg, fun i x hx => ?_⟩, hl⟩, fun k hk => by obtain rfl := Option.some.inj hk; exact hb⟩
    obtain ⟨e0, e1, e2⟩ := tokCells_get hx
    simp only [Nat.zero_add]
    exact ⟨hc _ _ e0, hc _ _ e1, hc _ _ e2⟩
end Go.Proofs.YtdajhcammnlonaaDoor
