/- A slice of ints that the call itself has made: append to it. And where the subtrees of a list begin, as plain data. -/
import Derived.Test.YtlabmboedjnpmaaChecked
import Derived.Test.YtlabmboedjnpmaaNodeKit2
import Derived.Test.YtlabmboedjnpmaaKindCount
namespace Go.Proofs.Ytlabmboedjnpmaa
open Go.RowKit
set_option linter.unusedVariables false

def OwnI (w : World) (base : Nat) (v : Value) (l : List Int) : Prop := w.ownsRow base 3 1 v l.length (l.map fun b => Value.int .i64 b)
theorem OwnI.alloc {w : World} {base : Nat} {v : Value} {l : List Int} (h : OwnI w base v l) (o : Obj) : OwnI (w.alloc o) base v l := World.ownsRow.alloc h o
theorem OwnI.start (w : World) {base : Nat} (hb : base ≤ w.heap.size) : OwnI (w.alloc (.cells #[] 3)) base (.slice (some ⟨w.heap.size, 0, none⟩) 0 0) [] :=
  World.ownsRow_lit w #[] 0 hb (Nat.zero_le _) rfl
theorem app_ints {ops : Array Oper} {rest : List Oper} {o : Oper} {a : Act} {Q : Exit → Act → World → Prop} {w : World} (hgd : o.guard = none) (s x : Operand)
    (ho : o.op = .call { callee := .builtin .append, args := #[s, x], argTypes := #[24, 24] }) (base : Nat) (v : Value) (l : List Int) (hs : a.eval s = v) (hown : OwnI w base v l)
    (g m c : Nat) (new : List Int) (hx : a.eval x = .slice (some ⟨g, 0, none⟩) m c) (hm : new.length = m) (hnew : ∀ j b, new[j]? = some b → w.cell? ⟨g, j, none⟩ = some (.int .i64 b))
    (hsz : l.length + m ≤ 16777216) (hbase : base ≤ w.heap.size)
    (h : ∀ v' w', OwnI w' base v' (l ++ new) → Below base w w' → wpList Try.prog ops Q rest (a.put o.dst v') w') : wpList Try.prog ops Q (o :: rest) a w := by
  obtain ⟨i0, hi, hz0, hz1, hz2⟩ := info_parts info_int
  refine wpList_append_own w hgd s x 24 ho base 3 i0 (.int .i64 0) 1 8 Try.underlying24 hi hz0 hz1 hz2 rfl (by decide) v l.length _ hs hown ⟨g, 0, none⟩ m c (new.map fun b => Value.int .i64 b) hx (by simp [hm]) ?_ ?_ (by unfold maxLen; omega) (by omega) hbase ?_
  · intro j u hu
    rw [List.getElem?_map] at hu
    cases hb : new[j]? with
    | none => rw [hb] at hu; cases hu
    | some b =>
      rw [hb] at hu
      obtain rfl := Option.some.inj hu
      have e : (⟨g, 0, none⟩ : Addr).add j = ⟨g, j, none⟩ := by unfold Addr.add; split <;> simp_all
      rw [e]
      exact hnew j b hb
  · intro u hu
    obtain ⟨b, _, rfl⟩ := List.mem_map.1 hu
    rfl
  · intro v' w' h2 h3 _
    refine h v' w' ?_ ?_
    · unfold OwnI
      rw [List.length_append, List.map_append, hm]
      exact h2
    · exact (Below.refl base w).grown h3 hbase (fun k hk => (hown.lt k hk).1)
theorem one_newi (w : World) (x : Int) (e : TypeId) : ∀ j b, [x][j]? = some b → (w.alloc (.cells #[.int .i64 x] e)).cell? ⟨w.heap.size, j, none⟩ = some (.int .i64 b) := by
  intro j b h
  rw [World.cell?_alloc_new]
  match j, h with
  | 0, h => simp at h; subst h; rfl
theorem OwnI.open {w : World} {base : Nat} {v : Value} {l : List Int} (h : OwnI w base v l) : (v = .slice none 0 0 ∧ l = []) ∨ ∃ g cap, v = .slice (some ⟨g, 0, none⟩) l.length cap ∧ base ≤ g ∧ g < w.heap.size ∧ l.length ≤ cap ∧ cap ≤ maxLen ∧ ∀ i x, l[i]? = some x → w.cell? ⟨g, i, none⟩ = some (.int .i64 x) := by
  have hlt := h.lt
  obtain ⟨_, h2⟩ := h
  rcases h2 with ⟨rfl, h0⟩ | ⟨g, cap, cur, rfl, hb, hh, q1, q2, hsz, htk⟩
  · exact .inl ⟨rfl, List.eq_nil_of_length_eq_zero h0⟩
  · refine .inr ⟨g, cap, rfl, hb, (Array.getElem?_eq_some_iff.1 hh).1, q1, q2, fun i x hx => ?_⟩
    have hi := (List.getElem?_eq_some_iff.1 hx).1
    rw [cell_of_row w g i cur _ _ hh]
    have h3 : (cur.toList.take (l.length * 1))[i]? = (l.map fun b => Value.int .i64 b)[i]? := by rw [htk]
    rw [List.getElem?_take_of_lt (by omega), Array.getElem?_toList, List.getElem?_map, hx] at h3
    exact h3
theorem OwnI.ints {w : World} {base : Nat} {v : Value} {l : List Int} (h : OwnI w base v l) (hl : ∀ x ∈ l, okInt x) : IntsIn w w.heap.size v l ∧ FromOn base v := by
  rcases h.open with ⟨rfl, rfl⟩ | ⟨g, cap, rfl, hb, hg, q1, q2, hc⟩
  · exact ⟨IntsIn.nil _ _, fun k hk => by cases hk⟩
  · exact ⟨⟨_, _, rfl, q1, q2, fun _ => ⟨g, 0, rfl, hg, fun i x hx => by rw [Nat.zero_add]; exact hc i x hx⟩, hl⟩, fun k hk => by obtain rfl := Option.some.inj hk; exact hb⟩
theorem OwnI.drew {w : World} {base : Nat} {v : Value} {l : List Int} (h : OwnI w base v l) : OwnI w.drew base v l := h
theorem OwnI.drewN {w : World} {base : Nat} {v : Value} {l : List Int} (h : OwnI w base v l) (n : Nat) : OwnI (w.drewN n) base v l := h
end Go.Proofs.Ytlabmboedjnpmaa
