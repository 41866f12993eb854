/- A slice of nodes that the call itself has made, and so are their kids: append to it. -/
import Derived.Test.YtlabmboedjnpmaaOwnI
import Derived.Test.YtlabmboedjnpmaaDrawPure
import Derived.Maps.AppendAt
namespace Go.Proofs.Ytlabmboedjnpmaa
open Go.RowKit
set_option linter.unusedVariables false

def nodeCells : List (PNode × Value) → List Value
  | [] => []
  | p :: r => .int .i64 p.1.kind :: .int .i64 p.1.op :: .string p.1.text :: .string p.1.other :: p.2 :: nodeCells r
theorem nodeCells_app : ∀ (a b : List (PNode × Value)), nodeCells (a ++ b) = nodeCells a ++ nodeCells b
  | [], _ => rfl
  | p :: a, b => by simp only [List.cons_append, nodeCells, nodeCells_app a b]
theorem nodeCells_len : ∀ (l : List (PNode × Value)), (nodeCells l).length = l.length * 5
  | [] => rfl
  | p :: l => by simp only [nodeCells, List.length_cons, nodeCells_len l]; omega
theorem nodeCells_get : ∀ {l : List (PNode × Value)} {i : Nat} {p : PNode × Value}, l[i]? = some p → (nodeCells l)[i * 5]? = some (.int .i64 p.1.kind) ∧ (nodeCells l)[i * 5 + 1]? = some (.int .i64 p.1.op) ∧ (nodeCells l)[i * 5 + 2]? = some (.string p.1.text) ∧ (nodeCells l)[i * 5 + 3]? = some (.string p.1.other) ∧ (nodeCells l)[i * 5 + 4]? = some p.2
  | [], _, _, h => by simp at h
  | u :: l, 0, p, h => by
    simp only [List.getElem?_cons_zero, Option.some.injEq] at h
    subst h
    exact ⟨rfl, rfl, rfl, rfl, rfl⟩
  | u :: l, i + 1, p, h => by
    rw [List.getElem?_cons_succ] at h
    obtain ⟨h0, h1, h2, h3, h4⟩ := nodeCells_get h
    have e : (i + 1) * 5 = i * 5 + 5 := by omega
    rw [e]
    exact ⟨h0, by rw [show i * 5 + 5 + 1 = i * 5 + 1 + 5 by omega]; exact h1, by rw [show i * 5 + 5 + 2 = i * 5 + 2 + 5 by omega]; exact h2, by rw [show i * 5 + 5 + 3 = i * 5 + 3 + 5 by omega]; exact h3, by rw [show i * 5 + 5 + 4 = i * 5 + 4 + 5 by omega]; exact h4⟩
theorem nodeCells_mem : ∀ {l : List (PNode × Value)} {u : Value}, u ∈ nodeCells l → (∃ p ∈ l, u = p.2) ∨ (∃ x, u = .int .i64 x) ∨ ∃ s, u = .string s
  | p :: l, u, h => by
    simp only [nodeCells, List.mem_cons] at h
    rcases h with h | h | h | h | h | h
    · exact .inr (.inl ⟨_, h⟩)
    · exact .inr (.inl ⟨_, h⟩)
    · exact .inr (.inr ⟨_, h⟩)
    · exact .inr (.inr ⟨_, h⟩)
    · exact .inl ⟨p, List.mem_cons_self .., h⟩
    · rcases nodeCells_mem h with ⟨q, hq, e⟩ | h
      · exact .inl ⟨q, List.mem_cons_of_mem _ hq, e⟩
      · exact .inr h

/-- two values lead to different blocks, if anywhere -/
def Apart (x y : Value) : Prop := ∀ k, x.ownBlock = some k → y.ownBlock ≠ some k
theorem Apart.symm {x y : Value} (h : Apart x y) : Apart y x := fun k hy hx => h k hx hy
/-- a value that leads, if anywhere, to a block below B -/
def UpTo (B : Nat) (v : Value) : Prop := ∀ k, v.ownBlock = some k → k < B
theorem Apart.of {x y : Value} {B : Nat} (hx : UpTo B x) (hy : FromOn B y) : Apart x y := fun k h1 h2 => by have := hx k h1; have := hy k h2; omega

section
variable {w w' : World} {base : Nat} {T : TypeId} {sz n : Nat} {v : Value} {xs : List Value}
theorem row_has (h : w.ownsRow base T sz v n xs) {k : Nat} (hk : v.ownBlock = some k) : base ≤ k ∧ ∃ cur, Has w k T cur := by
  rcases h.2 with ⟨rfl, _⟩ | ⟨g, cap, cur, rfl, hb, hh, _⟩
  · cases hk
  · obtain rfl := Option.some.inj hk
    exact ⟨hb, cur, hh⟩
theorem row_keep (h : w.ownsRow base T sz v n xs) (hk : ∀ k, v.ownBlock = some k → w'.heap[k]? = w.heap[k]?) : w'.ownsRow base T sz v n xs := by
  refine ⟨h.1, ?_⟩
  rcases h.2 with h0 | ⟨g, cap, cur, rfl, hb, hh, r⟩
  · exact .inl h0
  · exact .inr ⟨g, cap, cur, rfl, hb, (hk g rfl).trans hh, r⟩
theorem row_lower {base' : Nat} (h : w.ownsRow base T sz v n xs) (hb : base' ≤ base) : w.ownsRow base' T sz v n xs := by
  refine ⟨h.1, ?_⟩
  rcases h.2 with h0 | ⟨g, cap, cur, rfl, hg, r⟩
  · exact .inl h0
  · exact .inr ⟨g, cap, cur, rfl, Nat.le_trans hb hg, r⟩
end
theorem Has.type_eq {w : World} {k : Nat} {S T : TypeId} {a b : Array Value} (h : Has w k S a) (h2 : Has w k T b) : S = T := by
  have e := Option.some.inj (h.symm.trans h2)
  injection e

/-- the nodes, each with the slice of its kids, in a row of the call's own; each slice of kids of the call's own, no two in one block -/
def OwnQ (w : World) (base : Nat) (v : Value) (q : List (PNode × Value)) : Prop :=
  w.ownsRow base 26 5 v q.length (nodeCells q) ∧ (∀ p ∈ q, OwnI w base p.2 p.1.kids) ∧ q.Pairwise fun x y => Apart x.2 y.2
def OwnN (w : World) (base : Nat) (v : Value) (l : List PNode) : Prop := ∃ q, q.map Prod.fst = l ∧ OwnQ w base v q
section
variable {w w' : World} {base : Nat} {v : Value} {q : List (PNode × Value)} {l : List PNode}
theorem OwnQ.keep (h : OwnQ w base v q) (hk : ∀ k T cur, base ≤ k → Has w k T cur → T = 26 ∨ T = 3 → w'.heap[k]? = w.heap[k]?) : OwnQ w' base v q := by
  refine ⟨row_keep h.1 fun k hv => ?_, fun p hp => row_keep (h.2.1 p hp) fun k hv => ?_, h.2.2⟩
  · obtain ⟨hb, cur, hh⟩ := row_has h.1 hv
    exact hk k _ cur hb hh (.inl rfl)
  · obtain ⟨hb, cur, hh⟩ := row_has (h.2.1 p hp) hv
    exact hk k _ cur hb hh (.inr rfl)
theorem OwnQ.below {B : Nat} (h : OwnQ w base v q) (hb : Below B w w') (hB : w.heap.size ≤ B) : OwnQ w' base v q :=
  h.keep fun k T cur _ hh _ => hb.block k (Nat.lt_of_lt_of_le hh.lt hB)
theorem OwnQ.alloc (h : OwnQ w base v q) (o : Obj) : OwnQ (w.alloc o) base v q := h.below ((Below.refl _ _).alloc (Nat.le_refl _) o) (Nat.le_refl _)
theorem OwnQ.away {g : Nat} (h : OwnQ w base v q) (ha : Away g w w') (hg : g < base) : OwnQ w' base v q :=
  h.keep fun k T cur hk hh _ => ha.block k hh.lt (by omega)
theorem OwnQ.grown {row : Option Nat} (h : OwnQ w base v q) (hg : w.grownBy w' row) {T : TypeId} (ht : T ≠ 26 ∧ T ≠ 3) (hr : ∀ k, row = some k → ∃ cur, Has w k T cur) : OwnQ w' base v q :=
  h.keep fun k S cur _ hh hS => hg.block k hh.lt fun e => by
    obtain ⟨cur2, h2⟩ := hr k e.symm
    have := hh.type_eq h2
    subst this
    rcases hS with hS | hS
    · exact ht.1 hS
    · exact ht.2 hS
theorem OwnQ.lower {base' : Nat} (h : OwnQ w base v q) (hb : base' ≤ base) : OwnQ w base' v q := ⟨row_lower h.1 hb, fun p hp => row_lower (h.2.1 p hp) hb, h.2.2⟩
theorem OwnQ.kid_upto (h : OwnQ w base v q) : ∀ p ∈ q, UpTo w.heap.size p.2 := fun p hp k hk => (World.ownsRow.lt (h.2.1 p hp) k hk).2
theorem OwnQ.kid_from (h : OwnQ w base v q) : ∀ p ∈ q, FromOn base p.2 := fun p hp k hk => (World.ownsRow.lt (h.2.1 p hp) k hk).1
theorem OwnN.below {B : Nat} (h : OwnN w base v l) (hb : Below B w w') (hB : w.heap.size ≤ B) : OwnN w' base v l := by
  obtain ⟨q, e, h⟩ := h
  exact ⟨q, e, h.below hb hB⟩
theorem OwnN.alloc (h : OwnN w base v l) (o : Obj) : OwnN (w.alloc o) base v l := by
  obtain ⟨q, e, h⟩ := h
  exact ⟨q, e, h.alloc o⟩
theorem OwnN.away {g : Nat} (h : OwnN w base v l) (ha : Away g w w') (hg : g < base) : OwnN w' base v l := by
  obtain ⟨q, e, h⟩ := h
  exact ⟨q, e, h.away ha hg⟩
theorem OwnN.lower {base' : Nat} (h : OwnN w base v l) (hb : base' ≤ base) : OwnN w base' v l := by
  obtain ⟨q, e, h⟩ := h
  exact ⟨q, e, h.lower hb⟩
theorem OwnN.grown {row : Option Nat} (h : OwnN w base v l) (hg : w.grownBy w' row) {T : TypeId} (ht : T ≠ 26 ∧ T ≠ 3) (hr : ∀ k, row = some k → ∃ cur, Has w k T cur) : OwnN w' base v l := by
  obtain ⟨q, e, h⟩ := h
  exact ⟨q, e, h.grown hg ht hr⟩
end
theorem OwnQ.start (w : World) {base : Nat} (hb : base ≤ w.heap.size) : OwnQ (w.alloc (.cells #[] 26)) base (.slice (some ⟨w.heap.size, 0, none⟩) 0 0) [] :=
  ⟨World.ownsRow_lit w #[] 0 hb (Nat.zero_le _) rfl, fun p hp => (List.not_mem_nil hp).elim, List.Pairwise.nil⟩
theorem OwnI.nilSlice (w : World) (base : Nat) : OwnI w base (.slice none 0 0) [] := ⟨rfl, .inl ⟨rfl, rfl⟩⟩
/-- one node without kids, as it is written down -/
theorem OwnN.one (w : World) {base : Nat} (hb : base ≤ w.heap.size) (k o : Int) (t u : ByteArray) : OwnN (w.alloc (.cells #[.int .i64 k, .int .i64 o, .string t, .string u, .slice none 0 0] 26)) base (.slice (some ⟨w.heap.size, 0, none⟩) 1 1) [⟨k, o, t, u, []⟩] :=
  ⟨[(⟨k, o, t, u, []⟩, .slice none 0 0)], rfl, World.ownsRow_lit w _ 1 hb (by unfold maxLen; omega) rfl, fun p hp => by obtain rfl := List.mem_singleton.1 hp; exact OwnI.nilSlice _ _, List.pairwise_singleton _ _⟩
theorem row_open {w : World} {base : Nat} {T : TypeId} {sz n : Nat} {v : Value} {xs : List Value} (h : w.ownsRow base T sz v n xs) : (v = .slice none 0 0 ∧ n = 0) ∨ ∃ g cap, v = .slice (some ⟨g, 0, none⟩) n cap ∧ base ≤ g ∧ g < w.heap.size ∧ n ≤ cap ∧ cap ≤ maxLen ∧ ∀ i x, xs[i]? = some x → w.cell? ⟨g, i, none⟩ = some x := by
  rcases h.2 with ⟨rfl, h0⟩ | ⟨g, cap, cur, rfl, hb, hh, q1, q2, hsz, htk⟩
  · exact .inl ⟨rfl, h0⟩
  · refine .inr ⟨g, cap, rfl, hb, (Array.getElem?_eq_some_iff.1 hh).1, q1, q2, fun i x hx => ?_⟩
    rw [cell_of_row w g i cur _ _ hh]
    have h3 : (cur.toList.take (n * sz))[i]? = xs[i]? := by rw [htk]
    rw [hx] at h3
    rw [List.getElem?_take] at h3
    split at h3
    · rw [Array.getElem?_toList] at h3
      exact h3
    · cases h3
theorem OwnN.nodes {w : World} {base : Nat} {v : Value} {l : List PNode} (h : OwnN w base v l) (hl : ∀ nd ∈ l, okInt nd.kind ∧ okInt nd.op ∧ nd.text.size ≤ maxLen ∧ nd.other.size ≤ maxLen) (hk : ∀ nd ∈ l, ∀ x ∈ nd.kids, okInt x) : NodesIn w w.heap.size v l := by
  obtain ⟨q, rfl, h⟩ := h
  rcases row_open h.1 with ⟨rfl, h0⟩ | ⟨g, cap, rfl, hb, hg, q1, q2, hc⟩
  · have e := List.eq_nil_of_length_eq_zero h0
    subst e
    exact ⟨none, 0, rfl, Nat.le_refl _, Nat.zero_le _, fun h => absurd h (by simp), hl⟩
  · refine ⟨some ⟨g, 0, none⟩, cap, by rw [List.length_map], by rw [List.length_map]; exact q1, q2, fun _ => ⟨g, 0, rfl, hg, fun i nd hx => ?_⟩, hl⟩
    rw [List.getElem?_map] at hx
    cases hp : q[i]? with
    | none => rw [hp] at hx; cases hx
    | some p =>
      rw [hp] at hx
      obtain rfl := Option.some.inj hx
      have hm := List.mem_of_getElem? hp
      obtain ⟨e0, e1, e2, e3, e4⟩ := nodeCells_get hp
      simp only [Nat.zero_add]
      exact ⟨p.2, hc _ _ e0, hc _ _ e1, hc _ _ e2, hc _ _ e3, hc _ _ e4, ((h.2.1 p hm).ints (hk p.1 (List.mem_map_of_mem hm))).1⟩
theorem row_one {w : World} {base : Nat} {T : TypeId} {sz n : Nat} {v : Value} {xs : List Value} (h : w.ownsRow base T sz v n xs) : v.oneCell' = true := by
  rcases h.2 with ⟨rfl, _⟩ | ⟨g, cap, cur, rfl, _⟩ <;> rfl
theorem app_nodes {ops : Array Oper} {rest : List Oper} {o : Oper} {a : Act} {Q : Exit → Act → World → Prop} {w : World} (hgd : o.guard = none) (s x : Operand)
    (ho : o.op = .call { callee := .builtin .append, args := #[s, x], argTypes := #[52, 52] }) (base : Nat) (v : Value) (q : List (PNode × Value)) (hs : a.eval s = v) (hown : OwnQ w base v q)
    (g m c : Nat) (q2 : List (PNode × Value)) (hx : a.eval x = .slice (some ⟨g, 0, none⟩) m c) (hm : q2.length = m) (hnew : ∀ j b, (nodeCells q2)[j]? = some b → w.cell? ⟨g, j, none⟩ = some b)
    (hq2 : ∀ p ∈ q2, OwnI w base p.2 p.1.kids) (hp2 : q2.Pairwise fun x y => Apart x.2 y.2) (hap : ∀ p ∈ q, ∀ r ∈ q2, Apart p.2 r.2)
    (hsz : q.length + m ≤ 1048576) (hbase : base ≤ w.heap.size)
    (h : ∀ v' w', OwnQ w' base v' (q ++ q2) → Below base w w' → w.grownBy w' v.ownBlock → (v' = .slice none 0 0 ↔ v = .slice none 0 0 ∧ m = 0) → wpList Try.prog ops Q rest (a.put o.dst v') w') : wpList Try.prog ops Q (o :: rest) a w := by
  obtain ⟨i0, hi, hz0, hz1, hz2⟩ := info_parts info_node
  refine wpList_append_own_at w hgd s x 52 ho base 26 i0 _ 5 72 Try.underlying52 hi hz0 hz1 hz2 rfl (by decide) v q.length _ hs hown.1 ⟨g, 0, none⟩ m c (nodeCells q2) hx (by rw [nodeCells_len, hm]) ?_ ?_ (by unfold maxLen; omega) (by omega) hbase ?_
  · intro j u hu
    have e : (⟨g, 0, none⟩ : Addr).add j = ⟨g, j, none⟩ := by unfold Addr.add; split <;> simp_all
    rw [e]
    exact hnew j u hu
  · intro u hu
    rcases nodeCells_mem hu with ⟨p, hp, rfl⟩ | ⟨x, rfl⟩ | ⟨x, rfl⟩
    · exact row_one (hq2 p hp)
    · rfl
    · rfl
  · intro v' w' h2 h3 h4 h5
    have hkeep : ∀ (kv : Value) (ks : List Int), OwnI w base kv ks → OwnI w' base kv ks := fun kv ks hk => row_keep hk fun k hv => h3.block k (World.ownsRow.lt hk k hv).2 fun e => by
      obtain ⟨_, cur, hh⟩ := row_has hk hv
      obtain ⟨_, cur2, hh2⟩ := row_has hown.1 e.symm
      exact absurd (hh.type_eq hh2) (by decide)
    refine h v' w' ⟨?_, ?_, ?_⟩ ((Below.refl base w).grown h3 hbase (fun k hk => (World.ownsRow.lt hown.1 k hk).1)) h3 h4
    · rw [List.length_append, nodeCells_app, hm]
      exact h2
    · intro p hp
      rcases List.mem_append.1 hp with hp | hp
      · exact hkeep _ _ (hown.2.1 p hp)
      · exact hkeep _ _ (hq2 p hp)
    · exact List.pairwise_append.2 ⟨hown.2.2, hp2, hap⟩
end Go.Proofs.Ytlabmboedjnpmaa
