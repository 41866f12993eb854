/- Several texts in one (printed by a program): OwnN, Shift, GoodPure, OwnP, Make. -/
import Derived.Test.YtlabmboedjnpmaaGreatDoorShapeR
import Derived.Test.YtlabmboedjnpmaaGreatDoorMemR
import Derived.Maps.AppendAt
import Derived.Deep.AppendLies
import Derived.Deep.RegionLaw
/-! OwnN -/
namespace Go.Proofs.YtlabmboedjnpmaaGreatDoor
open Go.RowKit
set_option linter.unusedVariables false

def nodeCells : List (PNode × Value) → List Value
  | [] => []
  | p :: r => .int .i64 p.1.kind :: .int .i64 p.1.op :: .string p.1.text :: .string p.1.other :: p.2 :: nodeCells r
theorem nodeCells_app : ∀ (a b : List (PNode × Value)), nodeCells (a ++ b) = nodeCells a ++ nodeCells b
  | [], _ => rfl
  | p :: a, b => by simp only [List.cons_append, nodeCells, nodeCells_app a b]
theorem nodeCells_len : ∀ (l : List (PNode × Value)), (nodeCells l).length = l.length * 5
  | [] => rfl
  | p :: l => by simp only [nodeCells, List.length_cons, nodeCells_len l]; omega
theorem nodeCells_get : ∀ {l : List (PNode × Value)} {i : Nat} {p : PNode × Value}, l[i]? = some p → (nodeCells l)[i * 5]? = some (.int .i64 p.1.kind) ∧ (nodeCells l)[i * 5 + 1]? = some (.int .i64 p.1.op) ∧ (nodeCells l)[i * 5 + 2]? = some (.string p.1.text) ∧ (nodeCells l)[i * 5 + 3]? = some (.string p.1.other) ∧ (nodeCells l)[i * 5 + 4]? = some p.2
  | [], _, _, h => by simp at h
  | u :: l, 0, p, h => by
    simp only [List.getElem?_cons_zero, Option.some.injEq] at h
    subst h
    exact ⟨rfl, rfl, rfl, rfl, rfl⟩
  | u :: l, i + 1, p, h => by
    rw [List.getElem?_cons_succ] at h
    obtain ⟨h0, h1, h2, h3, h4⟩ := nodeCells_get h
    have e : (i + 1) * 5 = i * 5 + 5 := by omega
    rw [e]
    exact ⟨h0, by rw [show i * 5 + 5 + 1 = i * 5 + 1 + 5 by omega]; exact h1, by rw [show i * 5 + 5 + 2 = i * 5 + 2 + 5 by omega]; exact h2, by rw [show i * 5 + 5 + 3 = i * 5 + 3 + 5 by omega]; exact h3, by rw [show i * 5 + 5 + 4 = i * 5 + 4 + 5 by omega]; exact h4⟩
theorem nodeCells_mem : ∀ {l : List (PNode × Value)} {u : Value}, u ∈ nodeCells l → (∃ p ∈ l, u = p.2) ∨ (∃ x, u = .int .i64 x) ∨ ∃ s, u = .string s
  | p :: l, u, h => by
    simp only [nodeCells, List.mem_cons] at h
    rcases h with h | h | h | h | h | h
    · exact .inr (.inl ⟨_, h⟩)
    · exact .inr (.inl ⟨_, h⟩)
    · exact .inr (.inr ⟨_, h⟩)
    · exact .inr (.inr ⟨_, h⟩)
    · exact .inl ⟨p, List.mem_cons_self .., h⟩
    · rcases nodeCells_mem h with ⟨q, hq, e⟩ | h
      · exact .inl ⟨q, List.mem_cons_of_mem _ hq, e⟩
      · exact .inr h

/-- two values lead to different blocks, if anywhere -/
def Apart (x y : Value) : Prop := ∀ k, x.ownBlock = some k → y.ownBlock ≠ some k
theorem Apart.symm {x y : Value} (h : Apart x y) : Apart y x := fun k hy hx => h k hx hy
/-- a value that leads, if anywhere, to a block below B -/
def UpTo (B : Nat) (v : Value) : Prop := ∀ k, v.ownBlock = some k → k < B
theorem Apart.of {x y : Value} {B : Nat} (hx : UpTo B x) (hy : FromOn B y) : Apart x y := fun k h1 h2 => by have := hx k h1; have := hy k h2; omega

section
variable {w w' : World} {base : Nat} {T : TypeId} {sz n : Nat} {v : Value} {xs : List Value}
theorem row_has (h : w.ownsRow base T sz v n xs) {k : Nat} (hk : v.ownBlock = some k) : base ≤ k ∧ ∃ cur, Has w k T cur := by
  rcases h.2 with ⟨rfl, _⟩ | ⟨g, cap, cur, rfl, hb, hh, _⟩
  · cases hk
  · obtain rfl := Option.some.inj hk
    exact ⟨hb, cur, hh⟩
theorem row_keep (h : w.ownsRow base T sz v n xs) (hk : ∀ k, v.ownBlock = some k → w'.heap[k]? = w.heap[k]?) : w'.ownsRow base T sz v n xs := by
  refine ⟨h.1, ?_⟩
  rcases h.2 with h0 | ⟨g, cap, cur, rfl, hb, hh, r⟩
  · exact .inl h0
  · exact .inr ⟨g, cap, cur, rfl, hb, (hk g rfl).trans hh, r⟩
theorem row_lower {base' : Nat} (h : w.ownsRow base T sz v n xs) (hb : base' ≤ base) : w.ownsRow base' T sz v n xs := by
  refine ⟨h.1, ?_⟩
  rcases h.2 with h0 | ⟨g, cap, cur, rfl, hg, r⟩
  · exact .inl h0
  · exact .inr ⟨g, cap, cur, rfl, Nat.le_trans hb hg, r⟩
end
theorem Has.type_eq {w : World} {k : Nat} {S T : TypeId} {a b : Array Value} (h : Has w k S a) (h2 : Has w k T b) : S = T := by
  have e := Option.some.inj (h.symm.trans h2)
  injection e

/-- the nodes, each with the slice of its kids, in a row of the call's own; each slice of kids of the call's own, no two in one block -/
def OwnQ (w : World) (base : Nat) (v : Value) (q : List (PNode × Value)) : Prop :=
  w.ownsRow base 30 5 v q.length (nodeCells q) ∧ (∀ p ∈ q, OwnI w base p.2 p.1.kids) ∧ q.Pairwise fun x y => Apart x.2 y.2
def OwnN (w : World) (base : Nat) (v : Value) (l : List PNode) : Prop := ∃ q, q.map Prod.fst = l ∧ OwnQ w base v q
section
variable {w w' : World} {base : Nat} {v : Value} {q : List (PNode × Value)} {l : List PNode}
theorem OwnQ.keep (h : OwnQ w base v q) (hk : ∀ k T cur, base ≤ k → Has w k T cur → T = 30 ∨ T = 3 → w'.heap[k]? = w.heap[k]?) : OwnQ w' base v q := by
  refine ⟨row_keep h.1 fun k hv => ?_, fun p hp => row_keep (h.2.1 p hp) fun k hv => ?_, h.2.2⟩
  · obtain ⟨hb, cur, hh⟩ := row_has h.1 hv
    exact hk k _ cur hb hh (.inl rfl)
  · obtain ⟨hb, cur, hh⟩ := row_has (h.2.1 p hp) hv
    exact hk k _ cur hb hh (.inr rfl)
theorem OwnQ.below {B : Nat} (h : OwnQ w base v q) (hb : Below B w w') (hB : w.heap.size ≤ B) : OwnQ w' base v q :=
  h.keep fun k T cur _ hh _ => hb.block k (Nat.lt_of_lt_of_le hh.lt hB)
theorem OwnQ.alloc (h : OwnQ w base v q) (o : Obj) : OwnQ (w.alloc o) base v q := h.below ((Below.refl _ _).alloc (Nat.le_refl _) o) (Nat.le_refl _)
theorem OwnQ.away {g : Nat} (h : OwnQ w base v q) (ha : Away g w w') (hg : g < base) : OwnQ w' base v q :=
  h.keep fun k T cur hk hh _ => ha.block k hh.lt (by omega)
theorem OwnQ.grown {row : Option Nat} (h : OwnQ w base v q) (hg : w.grownBy w' row) {T : TypeId} (ht : T ≠ 30 ∧ T ≠ 3) (hr : ∀ k, row = some k → ∃ cur, Has w k T cur) : OwnQ w' base v q :=
  h.keep fun k S cur _ hh hS => hg.block k hh.lt fun e => by
    obtain ⟨cur2, h2⟩ := hr k e.symm
    have := hh.type_eq h2
    subst this
    rcases hS with hS | hS
    · exact ht.1 hS
    · exact ht.2 hS
theorem OwnQ.lower {base' : Nat} (h : OwnQ w base v q) (hb : base' ≤ base) : OwnQ w base' v q := ⟨row_lower h.1 hb, fun p hp => row_lower (h.2.1 p hp) hb, h.2.2⟩
theorem OwnQ.kid_upto (h : OwnQ w base v q) : ∀ p ∈ q, UpTo w.heap.size p.2 := fun p hp k hk => (World.ownsRow.lt (h.2.1 p hp) k hk).2
theorem OwnQ.kid_from (h : OwnQ w base v q) : ∀ p ∈ q, FromOn base p.2 := fun p hp k hk => (World.ownsRow.lt (h.2.1 p hp) k hk).1
theorem OwnN.below {B : Nat} (h : OwnN w base v l) (hb : Below B w w') (hB : w.heap.size ≤ B) : OwnN w' base v l := by
  obtain ⟨q, e, h⟩ := h
  exact ⟨q, e, h.below hb hB⟩
theorem OwnN.alloc (h : OwnN w base v l) (o : Obj) : OwnN (w.alloc o) base v l := by
  obtain ⟨q, e, h⟩ := h
  exact ⟨q, e, h.alloc o⟩
theorem OwnN.away {g : Nat} (h : OwnN w base v l) (ha : Away g w w') (hg : g < base) : OwnN w' base v l := by
  obtain ⟨q, e, h⟩ := h
  exact ⟨q, e, h.away ha hg⟩
theorem OwnN.lower {base' : Nat} (h : OwnN w base v l) (hb : base' ≤ base) : OwnN w base' v l := by
  obtain ⟨q, e, h⟩ := h
  exact ⟨q, e, h.lower hb⟩
theorem OwnN.grown {row : Option Nat} (h : OwnN w base v l) (hg : w.grownBy w' row) {T : TypeId} (ht : T ≠ 30 ∧ T ≠ 3) (hr : ∀ k, row = some k → ∃ cur, Has w k T cur) : OwnN w' base v l := by
  obtain ⟨q, e, h⟩ := h
  exact ⟨q, e, h.grown hg ht hr⟩
end
theorem OwnQ.start (w : World) {base : Nat} (hb : base ≤ w.heap.size) : OwnQ (w.alloc (.cells #[] 30)) base (.slice (some ⟨w.heap.size, 0, none⟩) 0 0) [] :=
  ⟨World.ownsRow_lit w #[] 0 hb (Nat.zero_le _) rfl, fun p hp => (List.not_mem_nil hp).elim, List.Pairwise.nil⟩
theorem OwnI.nilSlice (w : World) (base : Nat) : OwnI w base (.slice none 0 0) [] := ⟨rfl, .inl ⟨rfl, rfl⟩⟩
/-- one node without kids, as it is written down -/
theorem OwnN.one (w : World) {base : Nat} (hb : base ≤ w.heap.size) (k o : Int) (t u : ByteArray) : OwnN (w.alloc (.cells #[.int .i64 k, .int .i64 o, .string t, .string u, .slice none 0 0] 30)) base (.slice (some ⟨w.heap.size, 0, none⟩) 1 1) [⟨k, o, t, u, []⟩] :=
  ⟨[(⟨k, o, t, u, []⟩, .slice none 0 0)], rfl, World.ownsRow_lit w _ 1 hb (by unfold maxLen; omega) rfl, fun p hp => by obtain rfl := List.mem_singleton.1 hp; exact OwnI.nilSlice _ _, List.pairwise_singleton _ _⟩
theorem row_open {w : World} {base : Nat} {T : TypeId} {sz n : Nat} {v : Value} {xs : List Value} (h : w.ownsRow base T sz v n xs) : (v = .slice none 0 0 ∧ n = 0) ∨ ∃ g cap, v = .slice (some ⟨g, 0, none⟩) n cap ∧ base ≤ g ∧ g < w.heap.size ∧ n ≤ cap ∧ cap ≤ maxLen ∧ ∀ i x, xs[i]? = some x → w.cell? ⟨g, i, none⟩ = some x := by
  rcases h.2 with ⟨rfl, h0⟩ | ⟨g, cap, cur, rfl, hb, hh, q1, q2, hsz, htk⟩
  · exact .inl ⟨rfl, h0⟩
  · refine .inr ⟨g, cap, rfl, hb, (Array.getElem?_eq_some_iff.1 hh).1, q1, q2, fun i x hx => ?_⟩
    rw [cell_of_row w g i cur _ _ hh]
    have h3 : (cur.toList.take (n * sz))[i]? = xs[i]? := by rw [htk]
    rw [hx] at h3
    rw [List.getElem?_take] at h3
    split at h3
    · rw [Array.getElem?_toList] at h3
      exact h3
    · cases h3
theorem OwnN.nodes {w : World} {base : Nat} {v : Value} {l : List PNode} (h : OwnN w base v l) (hl : ∀ nd ∈ l, okInt nd.kind ∧ okInt nd.op ∧ nd.text.size ≤ maxLen ∧ nd.other.size ≤ maxLen) (hk : ∀ nd ∈ l, ∀ x ∈ nd.kids, okInt x) : NodesIn w w.heap.size v l := by
  obtain ⟨q, rfl, h⟩ := h
  rcases row_open h.1 with ⟨rfl, h0⟩ | ⟨g, cap, rfl, hb, hg, q1, q2, hc⟩
  · have e := List.eq_nil_of_length_eq_zero h0
    subst e
    exact ⟨none, 0, rfl, Nat.le_refl _, Nat.zero_le _, fun h => absurd h (by simp), hl⟩
  · refine ⟨some ⟨g, 0, none⟩, cap, by rw [List.length_map], by rw [List.length_map]; exact q1, q2, fun _ => ⟨g, 0, rfl, hg, fun i nd hx => ?_⟩, hl⟩
    rw [List.getElem?_map] at hx
    cases hp : q[i]? with
    | none => rw [hp] at hx; cases hx
    | some p =>
      rw [hp] at hx
      obtain rfl := Option.some.inj hx
      have hm := List.mem_of_getElem? hp
      obtain ⟨e0, e1, e2, e3, e4⟩ := nodeCells_get hp
      simp only [Nat.zero_add]
      exact ⟨p.2, hc _ _ e0, hc _ _ e1, hc _ _ e2, hc _ _ e3, hc _ _ e4, ((h.2.1 p hm).ints (hk p.1 (List.mem_map_of_mem hm))).1⟩
theorem row_one {w : World} {base : Nat} {T : TypeId} {sz n : Nat} {v : Value} {xs : List Value} (h : w.ownsRow base T sz v n xs) : v.oneCell' = true := by
  rcases h.2 with ⟨rfl, _⟩ | ⟨g, cap, cur, rfl, _⟩ <;> rfl
theorem app_nodes {ops : Array Oper} {rest : List Oper} {o : Oper} {a : Act} {Q : Exit → Act → World → Prop} {w : World} (hgd : o.guard = none) (s x : Operand)
    (ho : o.op = .call { callee := .builtin .append, args := #[s, x], argTypes := #[24, 24] }) (base : Nat) (v : Value) (q : List (PNode × Value)) (hs : a.eval s = v) (hown : OwnQ w base v q)
    (g m c : Nat) (q2 : List (PNode × Value)) (hx : a.eval x = .slice (some ⟨g, 0, none⟩) m c) (hm : q2.length = m) (hnew : ∀ j b, (nodeCells q2)[j]? = some b → w.cell? ⟨g, j, none⟩ = some b)
    (hq2 : ∀ p ∈ q2, OwnI w base p.2 p.1.kids) (hp2 : q2.Pairwise fun x y => Apart x.2 y.2) (hap : ∀ p ∈ q, ∀ r ∈ q2, Apart p.2 r.2)
    (hsz : q.length + m ≤ 1048576) (hbase : base ≤ w.heap.size)
    (h : ∀ v' w', OwnQ w' base v' (q ++ q2) → Below base w w' → w.grownBy w' v.ownBlock → (v' = .slice none 0 0 ↔ v = .slice none 0 0 ∧ m = 0) → wpList Tryz.prog ops Q rest (a.put o.dst v') w') : wpList Tryz.prog ops Q (o :: rest) a w := by
  obtain ⟨i0, hi, hz0, hz1, hz2⟩ := info_parts info_node
  refine wpList_append_own_at w hgd s x 24 ho base 30 i0 _ 5 72 Tryz.underlying24 hi hz0 hz1 hz2 rfl (by decide) v q.length _ hs hown.1 ⟨g, 0, none⟩ m c (nodeCells q2) hx (by rw [nodeCells_len, hm]) ?_ ?_ (by unfold maxLen; omega) (by omega) hbase ?_
  · intro j u hu
    have e : (⟨g, 0, none⟩ : Addr).add j = ⟨g, j, none⟩ := by unfold Addr.add; split <;> simp_all
    rw [e]
    exact hnew j u hu
  · intro u hu
    rcases nodeCells_mem hu with ⟨p, hp, rfl⟩ | ⟨x, rfl⟩ | ⟨x, rfl⟩
    · exact row_one (hq2 p hp)
    · rfl
    · rfl
  · intro v' w' h2 h3 h4 h5
    have hkeep : ∀ (kv : Value) (ks : List Int), OwnI w base kv ks → OwnI w' base kv ks := fun kv ks hk => row_keep hk fun k hv => h3.block k (World.ownsRow.lt hk k hv).2 fun e => by
      obtain ⟨_, cur, hh⟩ := row_has hk hv
      obtain ⟨_, cur2, hh2⟩ := row_has hown.1 e.symm
      exact absurd (hh.type_eq hh2) (by decide)
    refine h v' w' ⟨?_, ?_, ?_⟩ ((Below.refl base w).grown h3 hbase (fun k hk => (World.ownsRow.lt hown.1 k hk).1)) h3 h4
    · rw [List.length_append, nodeCells_app, hm]
      exact h2
    · intro p hp
      rcases List.mem_append.1 hp with hp | hp
      · exact hkeep _ _ (hown.2.1 p hp)
      · exact hkeep _ _ (hq2 p hp)
    · exact List.pairwise_append.2 ⟨hown.2.2, hp2, hap⟩
end Go.Proofs.YtlabmboedjnpmaaGreatDoor
/-! Shift -/
namespace Go.Proofs.YtlabmboedjnpmaaGreatDoor
open Go.RowKit
set_option linter.unusedVariables false

def shiftN (d : Int) (nd : PNode) : PNode := { nd with kids := nd.kids.map fun k => k + d }
theorem step_app_int {ops : Array Oper} {o : Oper} {a : Act} {K : Act → World → Prop} {Q : Exit → Act → World → Prop} {E : Prop} {w : World} (hgd : o.guard = none) (s x : Operand)
    (ho : o.op = .call { callee := .builtin .append, args := #[s, x], argTypes := #[28, 28] }) (base : Nat) (v : Value) (j : Nat) (xs : List Value) (hs : a.eval s = v) (hown : w.ownsRow base 3 1 v j xs)
    (g c : Nat) (k : Int) (hx : a.eval x = .slice (some ⟨g, 0, none⟩) 1 c) (hg : Has w g 3 #[.int .i64 k])
    (hj : j ≤ 1048576) (hbase : base ≤ w.heap.size) (H : Nat) (hH : w.heap.size = H)
    (h : ∀ g' cap w', w'.ownsRow base 3 1 (.slice (some ⟨g', 0, none⟩) (j + 1) cap) (j + 1) (xs ++ [.int .i64 k]) → w.grownBy w' v.ownBlock → (v.ownBlock = some g' ∨ g' = H) → g' < w'.heap.size → K (a.put o.dst (.slice (some ⟨g', 0, none⟩) (j + 1) cap)) w') :
    if Region.wanted o (yielded ops a.tmps) = true then Oper.wp Tryz.prog o a w K Q else E := by
  obtain ⟨i0, hi, hz0, hz1, hz2⟩ := info_parts info_int
  refine step_append_lies w hgd s x 28 ho base 3 i0 _ 1 8 Tryz.underlying28 hi hz0 hz1 hz2 rfl (by omega) v j xs hs hown ⟨g, 0, none⟩ 1 c _ hx rfl (World.news_of_block hg) (fun y hy => ?_) (by omega) (by unfold maxLen; omega) (by omega) hbase H hH h
  simp at hy
  subst hy
  rfl
theorem grown_far {w w' : World} {row : Option Nat} (hg : w.grownBy w' row) {b : Nat} (h1 : b < w.heap.size) (h2 : some b ≠ row) (o : Nat) : w'.cell? ⟨b, o, none⟩ = w.cell? ⟨b, o, none⟩ := World.cell?_of_block (hg.block b h1 h2)
/-- a kid has been appended: what holds anew -/
theorem shift_round {W0 wr w2 : World} {b cc cv g cap : Nat} {Av : Option Addr} {nd : PNode} {xs : List Value} {y : Int} (hb : Below b W0 wr)
    (h6 : Has wr b 30 #[.int .i64 nd.kind, .int .i64 nd.op, .string nd.text, .string nd.other, .slice Av cc cv])
    (hown : wr.ownsRow (b + 1) 3 1 (.slice Av cc cv) cc xs)
    (hgrow : (wr.alloc (.cells #[.int .i64 y] 3)).grownBy w2 (Value.slice Av cc cv).ownBlock) (hlt2 : g < w2.heap.size)
    (hown2 : w2.ownsRow (b + 1) 3 1 (.slice (some ⟨g, 0, none⟩) (cc + 1) cap) (cc + 1) (xs ++ [.int .i64 y])) :
    Has (w2.setCell ⟨b, 4, none⟩ (.slice (some ⟨g, 0, none⟩) (cc + 1) cap)) b 30 #[.int .i64 nd.kind, .int .i64 nd.op, .string nd.text, .string nd.other, .slice (some ⟨g, 0, none⟩) (cc + 1) cap] ∧
    Hid ((w2.setCell ⟨b, 4, none⟩ (.slice (some ⟨g, 0, none⟩) (cc + 1) cap)).ownsRow (b + 1) 3 1 (.slice (some ⟨g, 0, none⟩) (cc + 1) cap) (cc + 1) (xs ++ [.int .i64 y])) ∧
    Below b W0 (w2.setCell ⟨b, 4, none⟩ (.slice (some ⟨g, 0, none⟩) (cc + 1) cap)) := by
  have hbl := h6.lt
  have hvl : ∀ k, (Value.slice Av cc cv).ownBlock = some k → b + 1 ≤ k ∧ k < wr.heap.size := fun k hk => hown.lt k hk
  have old : ∀ k, k < wr.heap.size → (Value.slice Av cc cv).ownBlock ≠ some k → w2.heap[k]? = wr.heap[k]? := fun k h1 h2 =>
    (hgrow.block k (by simp; exact Nat.lt_succ_of_lt h1) (fun e => h2 e.symm)).trans (Below.heap_alloc wr _ k h1)
  have hnb : (Value.slice Av cc cv).ownBlock ≠ some b := fun e => by have := (hvl _ e).1; omega
  have k6 : Has w2 b 30 #[.int .i64 nd.kind, .int .i64 nd.op, .string nd.text, .string nd.other, .slice Av cc cv] := (old b hbl hnb).trans h6
  have s2 := hgrow.size
  refine ⟨by simpa using k6.set 4 (.slice (some ⟨g, 0, none⟩) (cc + 1) cap), ?_, ?_⟩
  · exact row_keep hown2 fun k hk => Below.heap_setCell w2 ⟨b, 4, none⟩ _ k (fun e => by have := (hown2.lt k hk).1; have e2 : k = b := e; omega)
  · refine Below.setCell ?_ (p := ⟨b, 4, none⟩) (Nat.le_refl b) _
    have hA : Below b W0 (wr.alloc (.cells #[.int .i64 y] 3)) := hb.alloc (Nat.le_of_lt hbl) _
    exact hA.grown hgrow (by simp; exact Nat.le_succ_of_le (Nat.le_of_lt hbl)) fun k hk => by have := (hvl k hk).1; omega
theorem shift_start (W0 : World) (nd : PNode) (b : Nat) (hb : W0.heap.size = b) :
    Has ((W0.alloc (.cells #[.int .i64 nd.kind, .int .i64 nd.op, .string nd.text, .string nd.other, .slice (some ⟨b + 1, 0, none⟩) 0 0] 30)).alloc (.cells #[] 3)) b 30 #[.int .i64 nd.kind, .int .i64 nd.op, .string nd.text, .string nd.other, .slice (some ⟨b + 1, 0, none⟩) 0 0] ∧
    Hid (((W0.alloc (.cells #[.int .i64 nd.kind, .int .i64 nd.op, .string nd.text, .string nd.other, .slice (some ⟨b + 1, 0, none⟩) 0 0] 30)).alloc (.cells #[] 3)).ownsRow (b + 1) 3 1 (.slice (some ⟨b + 1, 0, none⟩) 0 0) 0 []) ∧
    Below b W0 ((W0.alloc (.cells #[.int .i64 nd.kind, .int .i64 nd.op, .string nd.text, .string nd.other, .slice (some ⟨b + 1, 0, none⟩) 0 0] 30)).alloc (.cells #[] 3)) := by
  subst hb
  refine ⟨(Has.made _ _ _).alloc _, ?_, ((Below.refl _ _).alloc (Nat.le_refl _) _).alloc (by simp) _⟩
  have := World.ownsRow_lit (base := W0.heap.size + 1) (e := 3) (size := 1) (W0.alloc (.cells #[.int .i64 nd.kind, .int .i64 nd.op, .string nd.text, .string nd.other, .slice (some ⟨W0.heap.size + 1, 0, none⟩) 0 0] 30)) #[] 0 (by simp) (Nat.zero_le _) rfl
  simpa [Hid] using this
theorem one_newn (w : World) (p : PNode × Value) (e : TypeId) : ∀ j b, (nodeCells [p])[j]? = some b → (w.alloc (.cells #[.int .i64 p.1.kind, .int .i64 p.1.op, .string p.1.text, .string p.1.other, p.2] e)).cell? ⟨w.heap.size, j, none⟩ = some b := by
  intro j b h
  rw [World.cell?_alloc_new]
  match j, h with
  | 0, h => exact h
  | 1, h => exact h
  | 2, h => exact h
  | 3, h => exact h
  | 4, h => exact h
theorem OwnQ.form {w : World} {base : Nat} {v : Value} {q : List (PNode × Value)} (h : OwnQ w base v q) (hv : v ≠ .slice none 0 0) : ∃ g cap, v = .slice (some ⟨g, 0, none⟩) q.length cap ∧ q.length ≤ cap ∧ cap ≤ maxLen ∧ base ≤ g ∧ g < w.heap.size ∧ ∀ i x, (nodeCells q)[i]? = some x → w.cell? ⟨g, i, none⟩ = some x := by
  rcases row_open h.1 with ⟨e, _⟩ | ⟨g, cap, e, hb, hg, q1, q2, hc⟩
  · exact absurd e hv
  · exact ⟨g, cap, e, q1, q2, hb, hg, hc⟩
def RetShift (w : World) (d : Int) (l : List PNode) (e : Ending) (w' : World) : Prop := ∃ v q, e = .returned v ∧ v ≠ .slice none 0 0 ∧ q.map Prod.fst = l.map (shiftN d) ∧ OwnQ w' w.heap.size v q ∧ Below w.heap.size w w'
/-- a node has been appended: what holds anew -/
theorem shift_next {l : List PNode} {q : List (PNode × Value)} {j : Nat} {nd : PNode} {d : Int} {kv : Value} (hq : q.map Prod.fst = (l.take j).map (shiftN d)) (hnd : l[j]? = some nd) :
    (q ++ [(shiftN d nd, kv)]).map Prod.fst = (l.take (j + 1)).map (shiftN d) := by
  rw [List.take_add_one, hnd, List.map_append, List.map_append, hq]
  rfl
set_option maxRecDepth 100000 in
set_option maxHeartbeats 4000000 in
theorem d_shift (v : Value) (d : Int) (l : List PNode) (w : World) (hl : l.length ≤ 1048575) (h : NodesIn w w.heap.size v l) (hd : -4294967296 ≤ d ∧ d ≤ 4294967296) (hk : ∀ nd ∈ l, nd.kids.length ≤ 1048576 ∧ ∀ k ∈ nd.kids, -4294967296 ≤ k ∧ k ≤ 4294967296) :
    Calls Tryz.prog 54 #[v, .int .i64 d] w (RetShift w d l) := by
  obtain ⟨A, c, rfl, hlc, hcm, hcell, hsz⟩ := h
  unfold maxLen at hcm
  obtain ⟨n, hn⟩ : ∃ n, l.length = n := ⟨_, rfl⟩
  rw [hn] at hl hlc hcell ⊢
  have hnH := Lib.hid hn
  have hkH := Lib.hid hk
  clear hn hk hsz
  go_enter Tryz.func54, Tryz.ntmps54
  go_wp2_with fail
  go_loopw [5, 6] (fun x i wr => ∃ (j g cap : Nat) (q : List (PNode × Value)), j ≤ n ∧ x = .slice (some ⟨g, 0, none⟩) j cap ∧ i = .int .i64 j ∧ Hid (q.map Prod.fst = (l.take j).map (shiftN d) ∧ q.length = j) ∧ Hid (OwnQ wr w.heap.size (.slice (some ⟨g, 0, none⟩) j cap) q) ∧ Below w.heap.size w wr) (fun _ i _ => (n - (intOf i).toNat))
  case atStart => exact ⟨0, _, _, [], by omega, rfl, by go_num, ⟨rfl, rfl⟩, OwnQ.start w (Nat.le_refl _), (Below.refl _ _).alloc (Nat.le_refl _) _⟩
  case round =>
    obtain ⟨j, g, cap, q, hj, rfl, rfl, hq, hQ, hb⟩ := hrel
    by_cases hlt : j < n
    · obtain ⟨nd, hnd⟩ : ∃ nd, l[j]? = some nd := ⟨l[j]'(by rw [hnH.out]; exact hlt), List.getElem?_eq_getElem _⟩
      obtain ⟨b, off, hA, hlt2, hc⟩ := hcell (by omega)
      subst hA
      obtain ⟨kv, e0, e1, e2, e3, e4, K, kc, rfl, hk1, hk2, hk3, hk4⟩ := hc j nd hnd
      have hkj := Lib.hid (hkH.out nd (List.mem_of_getElem? hnd))
      obtain ⟨W0, hW0⟩ : ∃ W0, W0 = wr := ⟨_, rfl⟩
      subst hW0
      have hb0 := hb.size
      have hkk : ∀ o, W0.cell? ⟨b, o, none⟩ = w.cell? ⟨b, o, none⟩ := fun o => hb.cell (p := ⟨b, o, none⟩) hlt2
      rw [← hkk] at e0 e1 e2 e3 e4
      clear hkk hk4 hc hcell
      have hndH := Lib.hid hnd
      clear hnd
      obtain ⟨m, hm⟩ : ∃ m, nd.kids.length = m := ⟨_, rfl⟩
      rw [hm] at e4 hk1 hk3
      have hkm : m ≤ 1048576 := by have := hkj.out.1; omega
      have hmH := Lib.hid hm
      clear hm
      unfold maxLen at hk2
      go_wp2_with fail
      go_loopw [8] (fun z wr => ∃ (cc cv : Nat) (Av : Option Addr), cc ≤ m ∧ z = .int .i64 cc ∧ Has wr W0.heap.size 30 #[.int .i64 nd.kind, .int .i64 nd.op, .string nd.text, .string nd.other, .slice Av cc cv] ∧
        Hid (wr.ownsRow (W0.heap.size + 1) 3 1 (.slice Av cc cv) cc ((nd.kids.take cc).map fun k => Value.int .i64 (k + d))) ∧ Below W0.heap.size W0 wr) (fun z _ => (m - (intOf z).toNat))
      case atStart =>
        have hst := shift_start W0 nd _ rfl
        exact ⟨0, 0, some ⟨W0.heap.size + 1, 0, none⟩, by omega, by go_num, hst.1, hst.2.1, hst.2.2⟩
      case round =>
        obtain ⟨cc, cv, Av, hcc, rfl, h6, hown, hbi⟩ := hrel
        have e4' : wr.cell? ⟨b, off + j * 5 + 4, none⟩ = some (.slice K m kc) := (hbi.cell (p := ⟨b, off + j * 5 + 4, none⟩) (Nat.lt_of_lt_of_le hlt2 hb0)).trans e4
        by_cases hkl : cc < m
        · obtain ⟨x, hx⟩ : ∃ x, nd.kids[cc]? = some x := ⟨nd.kids[cc]'(by rw [hmH.out]; exact hkl), List.getElem?_eq_getElem _⟩
          obtain ⟨bk, ok, hK, hbl, hkc⟩ := hk3 (by omega)
          subst hK
          have ex : wr.cell? ⟨bk, ok + cc, none⟩ = some (.int .i64 x) := (hbi.cell (p := ⟨bk, ok + cc, none⟩) (Nat.lt_of_lt_of_le hbl hb0)).trans ((hb.cell (p := ⟨bk, ok + cc, none⟩) hbl).trans (hkc cc x hx))
          have hxb := hkj.out.2 x (List.mem_of_getElem? hx)
          have hks := Lib.hid (show (nd.kids.take (cc + 1)).map (fun k => Value.int .i64 (k + d)) = (nd.kids.take cc).map (fun k => Value.int .i64 (k + d)) ++ [.int .i64 (x + d)] by rw [List.take_add_one, hx, List.map_append]; rfl)
          have c64 := h6.get (i := 4) rfl
          have f64 := h6.free 4
          have hbl6 := h6.lt
          have h6H := Lib.hid h6
          have hw1 : IntKind.i64.wrap (x + d) = x + d := IntWalk.i64_in _ (by omega)
          clear hx hkc hk3 h6 e0 e1 e2 e3 e4
          go_wp2_with fail
          go_region_law (refine step_app_int (by rfl) _ _ (by rfl) (W0.heap.size + 1) (.slice Av cc cv) cc ((nd.kids.take cc).map fun k => Value.int .i64 (k + d)) (by rfl) ((show (wr.drewN 1).ownsRow (W0.heap.size + 1) 3 1 (.slice Av cc cv) cc _ from hown.out).alloc _) (wr.drewN 1).heap.size 1 (x + d) (by rfl) (Has.made _ _ _) (by omega) (by have : (wr.drewN 1).heap.size = wr.heap.size := rfl; simp; omega) (wr.heap.size + 1) (by simp) ?_; intro g2 cap2 w2 hown2 hgrow hat hlt3; have hkeep3 : w2.cell? ⟨W0.heap.size, 4, none⟩ = some (.slice Av cc cv) := (grown_far hgrow (by have : (wr.drewN 1).heap.size = wr.heap.size := rfl; simp; omega) (fun e => by have := (hown.out.lt (W0.heap.size) e.symm).1; omega) 4).trans (((h6H.out.drewN 1).alloc _).get (i := 4) rfl); have hfr3 : w2.frozen? ⟨W0.heap.size, 4, none⟩ = false := (World.grownBy.frozen_far hgrow ⟨W0.heap.size, 4, none⟩ (by have : (wr.drewN 1).heap.size = wr.heap.size := rfl; simp; omega) (fun e => by have := (hown.out.lt (W0.heap.size) e.symm).1; omega)).trans (((h6H.out.drewN 1).alloc _).free 4); have hatH := Lib.hid hat; have hown2H := Lib.hid hown2; have hgrowH := Lib.hid hgrow; clear hat hown2 hgrow)
          all_goals
            have hnext := Lib.hid (shift_round hbi h6H.out hown.out ⟨hgrowH.out.os, hgrowH.out.tape, hgrowH.out.output, hgrowH.out.size, hgrowH.out.block⟩ hlt3 hown2H.out)
            rw [← hks.out] at hnext
            clear hgrowH hown2H hatH hkeep3 hfr3 hown hbi
            go_wp2_with fail
            go_roundw
            case rel => exact ⟨cc + 1, cap2, some ⟨g2, 0, none⟩, by omega, by go_num, hnext.out⟩
            case measure => simp [intOf]; omega
        · obtain rfl : cc = m := by omega
          have hQr := Lib.hid (hQ.out.below hbi (Nat.le_refl _))
          have hkid : OwnI wr W0.heap.size (.slice Av cc cv) (shiftN d nd).kids := by
            have h1 := hown.out
            have e1 : nd.kids.take cc = nd.kids := List.take_of_length_le (by rw [hmH.out]; exact Nat.le_refl _)
            rw [e1] at h1
            have e2 : (shiftN d nd).kids.length = cc := by show (nd.kids.map _).length = cc; rw [List.length_map]; exact hmH.out
            have e3 : ((shiftN d nd).kids.map fun b => Value.int .i64 b) = nd.kids.map fun k => Value.int .i64 (k + d) := by
              show (nd.kids.map _).map _ = _
              rw [List.map_map]
              rfl
            unfold OwnI
            rw [e2, e3]
            exact row_lower h1 (Nat.le_succ _)
          have hap : ∀ p ∈ q, ∀ r ∈ [((shiftN d nd), Value.slice Av cc cv)], Apart p.2 r.2 := fun p hp r hr => by
            obtain rfl := List.mem_singleton.1 hr
            exact Apart.of (hQ.out.kid_upto p hp) (fun k hk => by have := (hown.out.lt k hk).1; omega)
          have hap := Lib.hid hap
          have hkid := Lib.hid hkid
          have hqn := Lib.hid (shift_next (kv := .slice Av cc cv) (d := d) hq.out.1 hndH.out)
          have hql := Lib.hid hq.out.2
          have c60 := h6.get (i := 0) rfl
          have c61 := h6.get (i := 1) rfl
          have c62 := h6.get (i := 2) rfl
          have c63 := h6.get (i := 3) rfl
          have c64 := h6.get (i := 4) rfl
          have hbl6 := h6.lt
          have hbw := Lib.hid (hb.trans (hbi.mono hb0))
          clear h6 e0 e1 e2 e3 e4 hown hbi
          go_wp2_with (at_builtin; refine app_nodes (by rfl) _ _ (by rfl) w.heap.size _ q (by rfl) (hQr.out.alloc _) _ 1 1 [(shiftN d nd, .slice Av cc cv)] (by rfl) rfl (one_newn _ (shiftN d nd, .slice Av cc cv) _) (fun p hp => by obtain rfl := List.mem_singleton.1 hp; exact (row_lower hkid.out hb0).alloc _) (List.pairwise_singleton _ _) hap.out (by rw [hql.out]; omega) (by have := hbw.out.size; simp; omega) ?_; intro v' w' hown' hb' hgr hnil; obtain ⟨g3, cap3, rfl, _, _, _, _, _⟩ := OwnQ.form hown' (fun e => absurd (hnil.1 e).1 (by simp)); have hown3 := Lib.hid hown'; clear hown' hgr hnil; rw [List.length_append, hql.out, show [(shiftN d nd, Value.slice Av cc cv)].length = 1 from rfl] at hown3 ⊢)
          go_roundw
          case rel => exact ⟨j + 1, g3, cap3, _, by omega, rfl, by go_num, ⟨hqn.out, by rw [List.length_append, hql.out]; rfl⟩, hown3, (hbw.out.alloc hbw.out.size _).trans hb'⟩
          case measure => simp [intOf]; omega
    · obtain rfl : j = n := by omega
      have hfin : Hid (q.map Prod.fst = l.map (shiftN d)) := by
        show _ = _
        rw [hq.out.1, List.take_of_length_le (by rw [hnH.out]; exact Nat.le_refl _)]
      go_wp2_with fail
      go_ret
      exact ⟨_, q, rfl, (fun e => by cases e), hfin.out, hQ.out, hb⟩
end Go.Proofs.YtlabmboedjnpmaaGreatDoor
/-! GoodPure -/
namespace Go.Proofs.YtlabmboedjnpmaaGreatDoor
open Go.RowKit
set_option linter.unusedVariables false

/-- a node of a drawn list of N nodes -/
structure GoodN (N : Nat) (nd : PNode) : Prop where
  kind : 0 ≤ nd.kind ∧ nd.kind ≤ 100
  op : 0 ≤ nd.op ∧ nd.op ≤ 200
  text : nd.text.size ≤ 16
  other : nd.other.size ≤ 16
  two : nd.kind = 12 → nd.kids.length ≤ 2
  few : nd.kids.length ≤ 8
  kids : ∀ k ∈ nd.kids, -1 ≤ k ∧ k < (N : Int)
def GoodT (l : List PNode) : Prop := ∀ nd ∈ l, GoodN l.length nd
theorem GoodN.more {N M : Nat} {nd : PNode} (h : GoodN N nd) (hM : N ≤ M) : GoodN M nd := ⟨h.kind, h.op, h.text, h.other, h.two, h.few, fun k hk => by have := h.kids k hk; omega⟩
theorem GoodN.shift {N M d : Nat} {nd : PNode} (h : GoodN N nd) (hM : N + d ≤ M) : GoodN M { nd with kids := nd.kids.map fun k => k + (d : Int) } := by
  refine ⟨h.kind, h.op, h.text, h.other, fun e => by show (nd.kids.map _).length ≤ 2; rw [List.length_map]; exact h.two e, by show (nd.kids.map _).length ≤ 8; rw [List.length_map]; exact h.few, fun k hk => ?_⟩
  obtain ⟨x, hx, rfl⟩ := List.mem_map.1 hk
  have := h.kids x hx
  omega
theorem GoodN.okN {N : Nat} {nd : PNode} (h : GoodN N nd) (hN : N ≤ 1048576) : (okInt nd.kind ∧ okInt nd.op ∧ nd.text.size ≤ maxLen ∧ nd.other.size ≤ maxLen) ∧ ∀ k ∈ nd.kids, okInt k := by
  have h1 := h.kind
  have h2 := h.op
  have h3 := h.text
  have h4 := h.other
  refine ⟨⟨?_, ?_, ?_, ?_⟩, fun k hk => ?_⟩
  · unfold okInt; omega
  · unfold okInt; omega
  · unfold maxLen; omega
  · unfold maxLen; omega
  · have := h.kids k hk
    unfold okInt
    omega
theorem GoodN.small {N : Nat} {nd : PNode} (h : GoodN N nd) (hN : N ≤ 1048576) : nd.kids.length ≤ 1048576 ∧ ∀ k ∈ nd.kids, -4294967296 ≤ k ∧ k ≤ 4294967296 :=
  ⟨by have := h.few; omega, fun k hk => by have := h.kids k hk; omega⟩
theorem GoodT.nil : GoodT [] := fun nd h => (List.not_mem_nil h).elim
/-- one node without kids -/
theorem GoodT.one {k o : Int} {t u : ByteArray} (hk : 0 ≤ k ∧ k ≤ 100) (ho : 0 ≤ o ∧ o ≤ 200) (ht : t.size ≤ 16) (hu : u.size ≤ 16) : GoodT [⟨k, o, t, u, []⟩] := fun nd h => by
  obtain rfl := List.mem_singleton.1 h
  exact ⟨hk, ho, ht, hu, fun _ => Nat.zero_le _, Nat.zero_le _, fun k hk => (List.not_mem_nil hk).elim⟩
/-- how many nodes the parts have together -/
def sumLen : List (Value × List PNode) → Nat
  | [] => 0
  | p :: r => p.2.length + sumLen r
theorem sumLen_append (a b : List (Value × List PNode)) : sumLen (a ++ b) = sumLen a + sumLen b := by
  induction a with
  | nil => simp [sumLen]
  | cons x a ih => simp only [List.cons_append, sumLen, ih]; omega
theorem sumLen_take {l : List (Value × List PNode)} {j : Nat} {p : Value × List PNode} (h : l[j]? = some p) : sumLen (l.take (j + 1)) = sumLen (l.take j) + p.2.length := by
  rw [List.take_add_one, h, sumLen_append]
  simp [sumLen]
theorem sumLen_take_le (l : List (Value × List PNode)) (j : Nat) : sumLen (l.take j) ≤ sumLen l := by
  have := sumLen_append (l.take j) (l.drop j)
  rw [List.take_append_drop] at this
  omega
end Go.Proofs.YtlabmboedjnpmaaGreatDoor
/-! OwnP -/
namespace Go.Proofs.YtlabmboedjnpmaaGreatDoor
open Go.RowKit
set_option linter.unusedVariables false

/-- a row of slices of nodes, all of them the call's own -/
def OwnP (w : World) (base : Nat) (v : Value) (ps : List (Value × List PNode)) : Prop := w.ownsRow base 24 1 v ps.length (ps.map Prod.fst) ∧ ∀ p ∈ ps, OwnN w base p.1 p.2
/-- a row of slices of nodes, to be read -/
def PartsIn (w : World) (v : Value) (ps : List (Value × List PNode)) : Prop :=
  ∃ A c, v = .slice A ps.length c ∧ ps.length ≤ c ∧ c ≤ maxLen ∧ (0 < ps.length → ∃ b off, A = some ⟨b, off, none⟩ ∧ b < w.heap.size ∧ ∀ i p, ps[i]? = some p → w.cell? ⟨b, off + i, none⟩ = some p.1) ∧ ∀ p ∈ ps, NodesIn w w.heap.size p.1 p.2
section
variable {w w' : World} {base : Nat} {v : Value} {ps : List (Value × List PNode)}
theorem OwnP.below {B : Nat} (h : OwnP w base v ps) (hb : Below B w w') (hB : w.heap.size ≤ B) : OwnP w' base v ps :=
  ⟨row_keep h.1 fun k hk => hb.block k (Nat.lt_of_lt_of_le (h.1.lt k hk).2 hB), fun p hp => (h.2 p hp).below hb hB⟩
theorem OwnP.alloc (h : OwnP w base v ps) (o : Obj) : OwnP (w.alloc o) base v ps := h.below ((Below.refl _ _).alloc (Nat.le_refl _) o) (Nat.le_refl _)
theorem OwnP.away {g : Nat} (h : OwnP w base v ps) (ha : Away g w w') (hg : g < base) : OwnP w' base v ps :=
  ⟨row_keep h.1 fun k hk => ha.block k (h.1.lt k hk).2 (by have := (h.1.lt k hk).1; omega), fun p hp => (h.2 p hp).away ha hg⟩
theorem OwnP.start (w : World) {base : Nat} (hb : base ≤ w.heap.size) : OwnP (w.alloc (.cells #[] 24)) base (.slice (some ⟨w.heap.size, 0, none⟩) 0 0) [] :=
  ⟨World.ownsRow_lit w #[] 0 hb (Nat.zero_le _) rfl, fun p hp => (List.not_mem_nil hp).elim⟩
theorem OwnN.goodNodes {l : List PNode} (h : OwnN w base v l) (hg : GoodT l) (hl : l.length ≤ 1048576) : NodesIn w w.heap.size v l :=
  h.nodes (fun nd hn => ((hg nd hn).okN hl).1) (fun nd hn => ((hg nd hn).okN hl).2)
theorem OwnP.parts (h : OwnP w base v ps) (hg : ∀ p ∈ ps, GoodT p.2) (hl : sumLen ps ≤ 1048576) : PartsIn w v ps := by
  have hl2 : ∀ p ∈ ps, p.2.length ≤ 1048576 := fun p hp => by
    obtain ⟨i, hi⟩ := List.mem_iff_getElem?.1 hp
    have h1 := sumLen_take hi
    have h2 := sumLen_take_le ps (i + 1)
    omega
  have hn : ∀ p ∈ ps, NodesIn w w.heap.size p.1 p.2 := fun p hp => (h.2 p hp).goodNodes (hg p hp) (hl2 p hp)
  rcases row_open h.1 with ⟨rfl, h0⟩ | ⟨g, cap, rfl, hb, hgl, q1, q2, hc⟩
  · exact ⟨none, 0, by rw [h0], by rw [h0]; exact Nat.le_refl _, Nat.zero_le _, fun hp => by omega, hn⟩
  · refine ⟨_, cap, rfl, q1, q2, fun _ => ⟨g, 0, rfl, hgl, fun i p hp => ?_⟩, hn⟩
    rw [Nat.zero_add]
    exact hc i p.1 (by rw [List.getElem?_map, hp]; rfl)
end
theorem PartsIn.one {w : World} {base : Nat} {v : Value} {l : List PNode} (h : OwnN w base v l) (hg : GoodT l) (hl : l.length ≤ 1048576) : PartsIn (w.alloc (.cells #[v] 24)) (.slice (some ⟨w.heap.size, 0, none⟩) 1 1) [(v, l)] := by
  refine ⟨_, 1, rfl, Nat.le_refl _, by unfold maxLen; omega, fun _ => ⟨w.heap.size, 0, rfl, by simp, fun i p hp => ?_⟩, fun p hp => ?_⟩
  · rw [Nat.zero_add, World.cell?_alloc_new]
    match i, hp with
    | 0, hp => obtain rfl := Option.some.inj hp; rfl
  · obtain rfl := List.mem_singleton.1 hp
    exact (h.alloc _).goodNodes hg hl
theorem PartsIn.two {w : World} {base base2 : Nat} {v v2 : Value} {l l2 : List PNode} (h : OwnN w base v l) (h2 : OwnN w base2 v2 l2) (hg : GoodT l) (hg2 : GoodT l2) (hl : l.length ≤ 1048576) (hl2 : l2.length ≤ 1048576) : PartsIn (w.alloc (.cells #[v, v2] 24)) (.slice (some ⟨w.heap.size, 0, none⟩) 2 2) [(v, l), (v2, l2)] := by
  refine ⟨_, 2, rfl, Nat.le_refl _, by unfold maxLen; omega, fun _ => ⟨w.heap.size, 0, rfl, by simp, fun i p hp => ?_⟩, fun p hp => ?_⟩
  · rw [Nat.zero_add, World.cell?_alloc_new]
    match i, hp with
    | 0, hp => obtain rfl := Option.some.inj hp; rfl
    | 1, hp => obtain rfl := Option.some.inj hp; rfl
  · simp only [List.mem_cons, List.not_mem_nil, or_false] at hp
    rcases hp with rfl | rfl
    · exact (h.alloc _).goodNodes hg hl
    · exact (h2.alloc _).goodNodes hg2 hl2
theorem PartsIn.three {w : World} {base base2 base3 : Nat} {v v2 v3 : Value} {l l2 l3 : List PNode} (h : OwnN w base v l) (h2 : OwnN w base2 v2 l2) (h3 : OwnN w base3 v3 l3) (hg : GoodT l) (hg2 : GoodT l2) (hg3 : GoodT l3) (hl : l.length ≤ 1048576) (hl2 : l2.length ≤ 1048576) (hl3 : l3.length ≤ 1048576) : PartsIn (w.alloc (.cells #[v, v2, v3] 24)) (.slice (some ⟨w.heap.size, 0, none⟩) 3 3) [(v, l), (v2, l2), (v3, l3)] := by
  refine ⟨_, 3, rfl, Nat.le_refl _, by unfold maxLen; omega, fun _ => ⟨w.heap.size, 0, rfl, by simp, fun i p hp => ?_⟩, fun p hp => ?_⟩
  · rw [Nat.zero_add, World.cell?_alloc_new]
    match i, hp with
    | 0, hp => obtain rfl := Option.some.inj hp; rfl
    | 1, hp => obtain rfl := Option.some.inj hp; rfl
    | 2, hp => obtain rfl := Option.some.inj hp; rfl
  · simp only [List.mem_cons, List.not_mem_nil, or_false] at hp
    rcases hp with rfl | rfl | rfl
    · exact (h.alloc _).goodNodes hg hl
    · exact (h2.alloc _).goodNodes hg2 hl2
    · exact (h3.alloc _).goodNodes hg3 hl3
theorem PartsIn.four {w : World} {base base2 base3 base4 : Nat} {v v2 v3 v4 : Value} {l l2 l3 l4 : List PNode} (h : OwnN w base v l) (h2 : OwnN w base2 v2 l2) (h3 : OwnN w base3 v3 l3) (h4 : OwnN w base4 v4 l4) (hg : GoodT l) (hg2 : GoodT l2) (hg3 : GoodT l3) (hg4 : GoodT l4) (hl : l.length ≤ 1048576) (hl2 : l2.length ≤ 1048576) (hl3 : l3.length ≤ 1048576) (hl4 : l4.length ≤ 1048576) : PartsIn (w.alloc (.cells #[v, v2, v3, v4] 24)) (.slice (some ⟨w.heap.size, 0, none⟩) 4 4) [(v, l), (v2, l2), (v3, l3), (v4, l4)] := by
  refine ⟨_, 4, rfl, Nat.le_refl _, by unfold maxLen; omega, fun _ => ⟨w.heap.size, 0, rfl, by simp, fun i p hp => ?_⟩, fun p hp => ?_⟩
  · rw [Nat.zero_add, World.cell?_alloc_new]
    match i, hp with
    | 0, hp => obtain rfl := Option.some.inj hp; rfl
    | 1, hp => obtain rfl := Option.some.inj hp; rfl
    | 2, hp => obtain rfl := Option.some.inj hp; rfl
    | 3, hp => obtain rfl := Option.some.inj hp; rfl
  · simp only [List.mem_cons, List.not_mem_nil, or_false] at hp
    rcases hp with rfl | rfl | rfl | rfl
    · exact (h.alloc _).goodNodes hg hl
    · exact (h2.alloc _).goodNodes hg2 hl2
    · exact (h3.alloc _).goodNodes hg3 hl3
    · exact (h4.alloc _).goodNodes hg4 hl4
theorem info_nodes : (Tryz.prog.info? 24).map (fun i => (i.zero, i.size, i.bytes)) = some (some (.slice none 0 0), 1, 24) := by kernel_rfl
theorem app_part {ops : Array Oper} {rest : List Oper} {o : Oper} {a : Act} {Q : Exit → Act → World → Prop} {w : World} (hgd : o.guard = none) (s x : Operand)
    (ho : o.op = .call { callee := .builtin .append, args := #[s, x], argTypes := #[79, 79] }) (base : Nat) (v : Value) (ps : List (Value × List PNode)) (hs : a.eval s = v) (hown : OwnP w base v ps)
    (g c : Nat) (p : Value × List PNode) (hx : a.eval x = .slice (some ⟨g, 0, none⟩) 1 c) (hnew : Has w g 24 #[p.1]) (hp : OwnN w base p.1 p.2)
    (hsz : ps.length + 1 ≤ 1048576) (hbase : base ≤ w.heap.size)
    (h : ∀ v' w', OwnP w' base v' (ps ++ [p]) → Below base w w' → v' ≠ .slice none 0 0 → wpList Tryz.prog ops Q rest (a.put o.dst v') w') : wpList Tryz.prog ops Q (o :: rest) a w := by
  obtain ⟨i0, hi, hz0, hz1, hz2⟩ := info_parts info_nodes
  refine wpList_append_own_at w hgd s x 79 ho base 24 i0 _ 1 24 Tryz.underlying79 hi hz0 hz1 hz2 rfl (by decide) v ps.length _ hs hown.1 ⟨g, 0, none⟩ 1 c [p.1] hx rfl (World.news_of_block hnew) ?_ (by unfold maxLen; omega) (by omega) hbase ?_
  · intro u hu
    obtain rfl := List.mem_singleton.1 hu
    obtain ⟨q, _, hq⟩ := hp
    exact row_one hq.1
  · intro v' w' h2 h3 h4 h5
    refine h v' w' ⟨?_, ?_⟩ ((Below.refl base w).grown h3 hbase (fun k hk => (World.ownsRow.lt hown.1 k hk).1)) (fun e => absurd (h4.1 e).2 (by decide))
    · rw [List.length_append, List.map_append]
      exact h2
    · intro r hr
      have hr2 : OwnN w base r.1 r.2 := by
        rcases List.mem_append.1 hr with hr | hr
        · exact hown.2 r hr
        · obtain rfl := List.mem_singleton.1 hr
          exact hp
      exact hr2.grown h3 (T := 24) ⟨by decide, by decide⟩ fun k hk => (row_has hown.1 hk).2
theorem app_int1 {ops : Array Oper} {rest : List Oper} {o : Oper} {a : Act} {Q : Exit → Act → World → Prop} {w : World} (hgd : o.guard = none) (s x : Operand)
    (ho : o.op = .call { callee := .builtin .append, args := #[s, x], argTypes := #[28, 28] }) (base : Nat) (v : Value) (l : List Int) (hs : a.eval s = v) (hown : OwnI w base v l)
    (g c : Nat) (y : Int) (hx : a.eval x = .slice (some ⟨g, 0, none⟩) 1 c) (hnew : Has w g 3 #[.int .i64 y])
    (hsz : l.length + 1 ≤ 1048576) (hbase : base ≤ w.heap.size)
    (h : ∀ g' cap w', OwnI w' base (.slice (some ⟨g', 0, none⟩) (l.length + 1) cap) (l ++ [y]) → w.grownBy w' v.ownBlock → (v.ownBlock = some g' ∨ g' = w.heap.size) → wpList Tryz.prog ops Q rest (a.put o.dst (.slice (some ⟨g', 0, none⟩) (l.length + 1) cap)) w') : wpList Tryz.prog ops Q (o :: rest) a w := by
  obtain ⟨i0, hi, hz0, hz1, hz2⟩ := info_parts info_int
  refine wpList_append_own_at w hgd s x 28 ho base 3 i0 _ 1 8 Tryz.underlying28 hi hz0 hz1 hz2 rfl (by decide) v l.length _ hs hown ⟨g, 0, none⟩ 1 c [.int .i64 y] hx rfl (World.news_of_block hnew) ?_ (by unfold maxLen; omega) (by omega) hbase ?_
  · intro u hu
    obtain rfl := List.mem_singleton.1 hu
    rfl
  · intro v' w' h2 h3 h4 h5
    have h6 : OwnI w' base v' (l ++ [y]) := by
      unfold OwnI
      rw [List.length_append, List.map_append]
      exact h2
    rcases h6.open with ⟨_, e⟩ | ⟨g', cap, e, _⟩
    · simp at e
    · rw [List.length_append] at e
      subst e
      exact h g' cap w' h6 h3 (h5.elim (fun e => Or.inl e.symm) fun e => Or.inr (Option.some.inj e))
end Go.Proofs.YtlabmboedjnpmaaGreatDoor
/-! Make -/
namespace Go.Proofs.YtlabmboedjnpmaaGreatDoor
open Go.RowKit
set_option linter.unusedVariables false

def RetMake (w : World) (n : Nat) (e : Ending) (w' : World) : Prop := ∃ v l, e = .returned v ∧ OwnN w' w.heap.size v l ∧ GoodT l ∧ l.length = n ∧ Below w.heap.size w w'
/-- what holds of the nodes so far and of the kids so far -/
structure MakeOk (ps : List (Value × List PNode)) (j : Nat) (q : List (PNode × Value)) (ks : List Int) (kv : Value) : Prop where
  len : q.length = sumLen (ps.take j)
  good : ∀ p ∈ q, GoodN q.length p.1
  many : ks.length = j
  kids : ∀ k ∈ ks, -1 ≤ k ∧ k < (q.length : Int)
  apart : ∀ p ∈ q, Apart p.2 kv
theorem MakeOk.start (ps : List (Value × List PNode)) (kv : Value) : MakeOk ps 0 [] [] kv := ⟨rfl, fun p h => (List.not_mem_nil h).elim, rfl, fun k h => (List.not_mem_nil h).elim, fun p h => (List.not_mem_nil h).elim⟩
/-- behind the part's append -/
structure MakeMid (ps : List (Value × List PNode)) (j : Nat) (q : List (PNode × Value)) (ks : List Int) (kv : Value) : Prop where
  len : q.length = sumLen (ps.take (j + 1))
  good : ∀ p ∈ q, GoodN q.length p.1
  many : ks.length = j
  kids : ∀ k ∈ ks, -1 ≤ k ∧ k < (q.length : Int)
  apart : ∀ p ∈ q, Apart p.2 kv
theorem MakeOk.mid {ps : List (Value × List PNode)} {j : Nat} {q q2 : List (PNode × Value)} {ks : List Int} {kv : Value} {p : Value × List PNode} (h : MakeOk ps j q ks kv) (hp : ps[j]? = some p) (hg : GoodT p.2) (hq2 : q2.map Prod.fst = p.2.map (shiftN q.length)) (hap : ∀ r ∈ q2, Apart r.2 kv) : MakeMid ps j (q ++ q2) ks kv := by
  have hl : q2.length = p.2.length := by
    have := congrArg List.length hq2
    simpa using this
  refine ⟨by rw [List.length_append, hl, sumLen_take hp, h.len], fun r hr => ?_, h.many, fun k hk => ?_, fun r hr => ?_⟩
  · rcases List.mem_append.1 hr with hr | hr
    · exact (h.good r hr).more (by rw [List.length_append]; omega)
    · have h1 : r.1 ∈ q2.map Prod.fst := List.mem_map_of_mem hr
      rw [hq2] at h1
      obtain ⟨nd, hnd, e⟩ := List.mem_map.1 h1
      rw [← e]
      exact (hg nd hnd).shift (by rw [List.length_append, hl]; omega)
  · have := h.kids k hk
    rw [List.length_append]
    omega
  · rcases List.mem_append.1 hr with hr | hr
    · exact h.apart r hr
    · exact hap r hr
theorem MakeMid.next {ps : List (Value × List PNode)} {j : Nat} {q : List (PNode × Value)} {ks : List Int} {kv kv' : Value} (h : MakeMid ps j q ks kv) (hap : ∀ p ∈ q, Apart p.2 kv') : MakeOk ps (j + 1) q (ks ++ [(q.length : Int) - 1]) kv' := by
  refine ⟨h.len, h.good, by rw [List.length_append, h.many]; rfl, fun k hk => ?_, hap⟩
  rcases List.mem_append.1 hk with hk | hk
  · exact h.kids k hk
  · obtain rfl := List.mem_singleton.1 hk
    omega
/-- the whole -/
theorem MakeOk.whole {ps : List (Value × List PNode)} {q : List (PNode × Value)} {ks : List Int} {kv : Value} {k o : Int} {t u : ByteArray} (h : MakeOk ps ps.length q ks kv) (hk : 0 ≤ k ∧ k ≤ 100) (ho : 0 ≤ o ∧ o ≤ 200) (ht : t.size ≤ 16) (hu : u.size ≤ 16) (h2 : k = 12 → ps.length ≤ 2) (h8 : ps.length ≤ 8) :
    GoodT ((q ++ [((⟨k, o, t, u, ks⟩ : PNode), kv)]).map Prod.fst) ∧ ((q ++ [((⟨k, o, t, u, ks⟩ : PNode), kv)]).map Prod.fst).length = sumLen ps + 1 := by
  have hl := h.len
  rw [List.take_length] at hl
  refine ⟨fun nd hnd => ?_, by simp [hl]⟩
  rw [List.length_map, List.length_append]
  rw [List.map_append] at hnd
  rcases List.mem_append.1 hnd with hnd | hnd
  · obtain ⟨p, hp, rfl⟩ := List.mem_map.1 hnd
    exact (h.good p hp).more (Nat.le_add_right _ _)
  · obtain rfl := List.mem_singleton.1 hnd
    exact ⟨hk, ho, ht, hu, fun e => by show ks.length ≤ 2; rw [h.many]; exact h2 e, by show ks.length ≤ 8; rw [h.many]; exact h8, fun x hx => by have := h.kids x hx; simp; omega⟩
theorem make_start (w : World) (k o : Int) (t u : ByteArray) (b : Nat) (hb : w.heap.size = b) :
    Has (((w.alloc (.cells #[.int .i64 k, .int .i64 o, .string t, .string u, .slice (some ⟨b + 1 + 1, 0, none⟩) 0 0] 30)).alloc (.cells #[] 30)).alloc (.cells #[] 3)) b 30 #[.int .i64 k, .int .i64 o, .string t, .string u, .slice (some ⟨b + 1 + 1, 0, none⟩) 0 0] ∧
    Hid (OwnQ (((w.alloc (.cells #[.int .i64 k, .int .i64 o, .string t, .string u, .slice (some ⟨b + 1 + 1, 0, none⟩) 0 0] 30)).alloc (.cells #[] 30)).alloc (.cells #[] 3)) (b + 1) (.slice (some ⟨b + 1, 0, none⟩) 0 0) []) ∧
    Hid (OwnI (((w.alloc (.cells #[.int .i64 k, .int .i64 o, .string t, .string u, .slice (some ⟨b + 1 + 1, 0, none⟩) 0 0] 30)).alloc (.cells #[] 30)).alloc (.cells #[] 3)) (b + 1) (.slice (some ⟨b + 1 + 1, 0, none⟩) 0 0) []) ∧
    Below b w (((w.alloc (.cells #[.int .i64 k, .int .i64 o, .string t, .string u, .slice (some ⟨b + 1 + 1, 0, none⟩) 0 0] 30)).alloc (.cells #[] 30)).alloc (.cells #[] 3)) := by
  subst hb
  refine ⟨((Has.made _ _ _).alloc _).alloc _, ?_, ?_, (((Below.refl _ _).alloc (Nat.le_refl _) _).alloc (by simp) _).alloc (by simp; omega) _⟩
  · have := (OwnQ.start (base := w.heap.size + 1) (w.alloc (.cells #[.int .i64 k, .int .i64 o, .string t, .string u, .slice (some ⟨w.heap.size + 1 + 1, 0, none⟩) 0 0] 30)) (by simp)).alloc (.cells #[] 3)
    simpa [Hid] using this
  · have := OwnI.start (base := w.heap.size + 1) ((w.alloc (.cells #[.int .i64 k, .int .i64 o, .string t, .string u, .slice (some ⟨w.heap.size + 1 + 1, 0, none⟩) 0 0] 30)).alloc (.cells #[] 30)) (by simp)
    simpa [Hid] using this
theorem OwnI.grownN {w w' : World} {base : Nat} {v : Value} {l : List Int} (h : OwnI w base v l) {row : Option Nat} (hg : w.grownBy w' row) (hr : ∀ k, row = some k → ∃ cur, Has w k 30 cur) : OwnI w' base v l :=
  row_keep h fun k hk => hg.block k (h.lt k hk).2 fun e => by
    obtain ⟨_, cur, hh⟩ := row_has h hk
    obtain ⟨cur2, h2⟩ := hr k e.symm
    exact absurd (hh.type_eq h2) (by decide)
/-- a kid has been appended: what holds anew -/
theorem make_round {w wr w2 : World} {b j kc g cap : Nat} {K : Option Addr} {k o y : Int} {t u : ByteArray} {q : List (PNode × Value)} {ks : List Int} {x : Value} (hb : Below b w wr)
    (h6 : Has wr b 30 #[.int .i64 k, .int .i64 o, .string t, .string u, .slice K j kc])
    (hown : OwnI wr (b + 1) (.slice K j kc) ks) (hQ : OwnQ wr (b + 1) x q) (hap : ∀ p ∈ q, Apart p.2 (.slice K j kc))
    (hgrow : (wr.alloc (.cells #[.int .i64 y] 3)).grownBy w2 (Value.slice K j kc).ownBlock) (hat : (Value.slice K j kc).ownBlock = some g ∨ g = (wr.alloc (.cells #[.int .i64 y] 3)).heap.size)
    (hown2 : OwnI w2 (b + 1) (.slice (some ⟨g, 0, none⟩) (j + 1) cap) (ks ++ [y])) :
    Has (w2.setCell ⟨b, 4, none⟩ (.slice (some ⟨g, 0, none⟩) (j + 1) cap)) b 30 #[.int .i64 k, .int .i64 o, .string t, .string u, .slice (some ⟨g, 0, none⟩) (j + 1) cap] ∧
    Hid (OwnI (w2.setCell ⟨b, 4, none⟩ (.slice (some ⟨g, 0, none⟩) (j + 1) cap)) (b + 1) (.slice (some ⟨g, 0, none⟩) (j + 1) cap) (ks ++ [y])) ∧
    Hid (OwnQ (w2.setCell ⟨b, 4, none⟩ (.slice (some ⟨g, 0, none⟩) (j + 1) cap)) (b + 1) x q) ∧ (∀ p ∈ q, Apart p.2 (.slice (some ⟨g, 0, none⟩) (j + 1) cap)) ∧
    Below b w (w2.setCell ⟨b, 4, none⟩ (.slice (some ⟨g, 0, none⟩) (j + 1) cap)) := by
  have hbl := h6.lt
  have hvl : ∀ r, (Value.slice K j kc).ownBlock = some r → b + 1 ≤ r ∧ r < wr.heap.size := fun r hr => hown.lt r hr
  have old : ∀ r, r < wr.heap.size → (Value.slice K j kc).ownBlock ≠ some r → w2.heap[r]? = wr.heap[r]? := fun r h1 h2 =>
    (hgrow.block r (by simp; exact Nat.lt_succ_of_lt h1) (fun e => h2 e.symm)).trans (Below.heap_alloc wr _ r h1)
  have hnb : (Value.slice K j kc).ownBlock ≠ some b := fun e => by have := (hvl _ e).1; omega
  have k6 : Has w2 b 30 #[.int .i64 k, .int .i64 o, .string t, .string u, .slice K j kc] := (old b hbl hnb).trans h6
  have far : ∀ r, r ≠ b → (w2.setCell ⟨b, 4, none⟩ (.slice (some ⟨g, 0, none⟩) (j + 1) cap)).heap[r]? = w2.heap[r]? := fun r hr => Below.heap_setCell w2 ⟨b, 4, none⟩ _ r hr
  refine ⟨by simpa using k6.set 4 (.slice (some ⟨g, 0, none⟩) (j + 1) cap), ?_, ?_, ?_, ?_⟩
  · exact row_keep hown2 fun r hr => far r (fun e => by have := (hown2.lt r hr).1; omega)
  · refine ⟨row_keep hQ.1 fun r hr => ?_, fun p hp => row_keep (hQ.2.1 p hp) fun r hr => ?_, hQ.2.2⟩
    · obtain ⟨hr1, cur, hh⟩ := row_has hQ.1 hr
      exact (far r (by omega)).trans (old r hh.lt fun e => by
        obtain ⟨_, cur2, h2⟩ := row_has hown e
        exact absurd (hh.type_eq h2) (by decide))
    · obtain ⟨hr1, cur, hh⟩ := row_has (hQ.2.1 p hp) hr
      exact (far r (by omega)).trans (old r hh.lt fun e => hap p hp r hr e)
  · intro p hp r hr e
    obtain rfl := Option.some.inj e
    rcases hat with hat | hat
    · exact hap p hp g hr hat
    · have h1 := hQ.kid_upto p hp g hr
      rw [hat] at h1
      simp at h1
      omega
  · refine Below.setCell ?_ (p := ⟨b, 4, none⟩) (Nat.le_refl b) _
    have hA : Below b w (wr.alloc (.cells #[.int .i64 y] 3)) := hb.alloc (Nat.le_of_lt hbl) _
    exact hA.grown hgrow (by simp; exact Nat.le_succ_of_le (Nat.le_of_lt hbl)) fun r hr => by have := (hvl r hr).1; omega
theorem good_small {l : List PNode} (h : GoodT l) (hl : l.length ≤ 1048575) : ∀ nd ∈ l, nd.kids.length ≤ 1048576 ∧ ∀ k ∈ nd.kids, -4294967296 ≤ k ∧ k ≤ 4294967296 := fun nd hn => (h nd hn).small (by omega)
theorem OwnI.below {w w' : World} {B base : Nat} {v : Value} {l : List Int} (h : OwnI w base v l) (hb : Below B w w') (hB : w.heap.size ≤ B) : OwnI w' base v l := row_keep h fun k hk => hb.block k (Nat.lt_of_lt_of_le (h.lt k hk).2 hB)
set_option maxRecDepth 100000 in
set_option maxHeartbeats 4000000 in
theorem d_make (pv : Value) (k o : Int) (t u : ByteArray) (ps : List (Value × List PNode)) (w : World) (hk : 0 ≤ k ∧ k ≤ 100) (ho : 0 ≤ o ∧ o ≤ 200) (ht : t.size ≤ 16) (hu : u.size ≤ 16) (hp : PartsIn w pv ps) (hg : ∀ p ∈ ps, GoodT p.2) (hs : sumLen ps ≤ 10000) (h2 : k = 12 → ps.length ≤ 2) (h8 : ps.length ≤ 8) :
    Calls Tryz.prog 76 #[.agg #[.int .i64 k, .int .i64 o, .string t, .string u, .slice none 0 0], pv] w (RetMake w (sumLen ps + 1)) := by
  obtain ⟨A, c, rfl, hlc, hcm, hcell, hnod⟩ := hp
  unfold maxLen at hcm
  obtain ⟨n, hn⟩ : ∃ n, ps.length = n := ⟨_, rfl⟩
  rw [hn] at hlc hcell h2 h8 ⊢
  have hnH := Lib.hid hn
  have hgH := Lib.hid hg
  have hnodH := Lib.hid hnod
  clear hn hg hnod
  go_enter Tryz.func76, Tryz.ntmps76
  go_wp2_with fail
  go_loopw [5, 6] (fun x i wr => ∃ (j g cap n1 kc : Nat) (K : Option Addr) (q : List (PNode × Value)) (ks : List Int), j ≤ n ∧ x = .slice (some ⟨g, 0, none⟩) n1 cap ∧ i = .int .i64 j ∧ Hid (n1 = q.length) ∧ Hid (MakeOk ps j q ks (.slice K j kc)) ∧ Has wr w.heap.size 30 #[.int .i64 k, .int .i64 o, .string t, .string u, .slice K j kc] ∧
    Hid (OwnQ wr (w.heap.size + 1) (.slice (some ⟨g, 0, none⟩) n1 cap) q) ∧ Hid (OwnI wr (w.heap.size + 1) (.slice K j kc) ks) ∧ Below w.heap.size w wr) (fun _ i _ => (n - (intOf i).toNat))
  case atStart =>
    have hst := make_start w k o t u _ rfl
    exact ⟨0, _, _, 0, 0, some ⟨w.heap.size + 1 + 1, 0, none⟩, [], [], by omega, rfl, by go_num, rfl, MakeOk.start _ _, hst.1, hst.2.1, hst.2.2.1, hst.2.2.2⟩
  case round =>
    obtain ⟨j, g, cap, n1, kc, K, q, ks, hj, rfl, rfl, hn1, hok, h6, hQ, hI, hb⟩ := hrel
    have hn1b : n1 ≤ 10000 := by
      have h1 := hok.out.len
      have h3 := sumLen_take_le ps j
      have h4 := hn1.out
      omega
    by_cases hlt : j < n
    · obtain ⟨p, hp⟩ : ∃ p, ps[j]? = some p := ⟨ps[j]'(by rw [hnH.out]; exact hlt), List.getElem?_eq_getElem _⟩
      obtain ⟨b, off, hA, hlt2, hc⟩ := hcell (by omega)
      subst hA
      have e0 : wr.cell? ⟨b, off + j, none⟩ = some p.1 := (hb.cell (p := ⟨b, off + j, none⟩) hlt2).trans (hc j p hp)
      have hmem := List.mem_of_getElem? hp
      have hN := Lib.hid (((hnodH.out p hmem).keep hb (Nat.le_refl _)).more hb.size)
      have hgp := Lib.hid (hgH.out p hmem)
      have hpl : Hid (p.2.length ≤ 10000) := by
        show _ ≤ _
        have h1 := sumLen_take hp
        have h3 := sumLen_take_le ps (j + 1)
        omega
      have hpH := Lib.hid hp
      have h6H := Lib.hid h6
      clear hp hc hmem h6
      go_wp2_with fail
      refine (d_shift _ _ p.2 _ (by have := hpl.out; omega) hN.out (by omega) (good_small hgp.out (by have := hpl.out; omega))).mono ?_
      rintro e w1 ⟨v2, q2, rfl, hv2, hq2, hQ2, hb1⟩
      obtain ⟨g2, cap2, rfl, hc1, hc2, hg21, hg22, hcells⟩ := hQ2.form hv2
      have hq2l : q2.length = p.2.length := by
        have := congrArg List.length hq2
        simpa using this
      obtain ⟨m2, hm2⟩ : ∃ m2, q2.length = m2 := ⟨_, rfl⟩
      have hm2b : m2 ≤ 10000 := by have := hpl.out; omega
      rw [hm2] at hc1 hQ2 ⊢
      have hmid := Lib.hid (hok.out.mid (q2 := q2) hpH.out hgp.out (by rw [hq2, hn1.out]) fun r hr => (Apart.of (hI.out.lt · · |>.2) (hQ2.kid_from r hr)).symm)
      have hapq := Lib.hid (fun (r : PNode × Value) hr (r2 : PNode × Value) hr2 => Apart.of (hQ.out.kid_upto r hr) (hQ2.kid_from r2 hr2))
      have hQ1 := Lib.hid (hQ.out.below hb1 (Nat.le_refl _))
      have hI1 := Lib.hid (hI.out.below hb1 (Nat.le_refl _))
      have h61 := Lib.hid (h6H.out.below hb1 h6H.out.lt)
      have hs1 := hb1.size
      have hbw := Lib.hid (hb.trans (hb1.mono hb.size))
      have hkids2 := Lib.hid (fun (r : PNode × Value) hr => row_lower (hQ2.2.1 r hr) (show w.heap.size + 1 ≤ wr.heap.size from h6H.out.lt))
      have hp2 := Lib.hid hQ2.2.2
      have hm2H := Lib.hid hm2
      have hcellsH := Lib.hid hcells
      have hb0 := h6H.out.lt
      clear hq2 hQ2 hq2l hm2 hcells hQ hI hb1 hb hv2 hg21 hg22 e0
      go_wp2_with (first
        | (at_builtin; refine app_nodes (by rfl) _ _ (by rfl) (w.heap.size + 1) _ q (by rfl) hQ1.out g2 m2 cap2 q2 (by rfl) hm2H.out hcellsH.out hkids2.out hp2.out hapq.out (by have := hn1.out; omega) (by omega) ?_; intro v' w2 hown' hb2 hgr hnil; obtain ⟨g3, cap3, rfl, _, _, _, _, _⟩ := OwnQ.form hown' (fun e => absurd (hnil.1 e).1 (by simp)); have hI2 := Lib.hid (hI1.out.grownN hgr fun k hk => (row_has hQ1.out.1 hk).2); have h62 := Lib.hid (h61.out.below hb2 (Nat.lt_succ_self _)); have c64 := h62.out.get (i := 4) rfl; have f64 := h62.out.free 4; have hlt62 := h62.out.lt; have hbw2 := Lib.hid (hbw.out.trans (hb2.mono (Nat.le_succ _))); obtain ⟨n3, hn3⟩ : ∃ n3, (q ++ q2).length = n3 := ⟨_, rfl⟩; have hn3b : n3 ≤ 20000 := (by rw [← hn3, List.length_append]; have := hm2H.out; have := hn1.out; omega); rw [hn3] at hown' ⊢; have hown3 := Lib.hid hown'; have hn3H := Lib.hid hn3; clear hown' hgr hnil hb2 hn3)
        | (at_builtin; refine app_int1 (by rfl) _ _ (by rfl) (w.heap.size + 1) _ ks (by rfl) (hI2.out.alloc _) _ 1 ((n3 : Int) - 1) (by rfl) (Has.made _ _ _) (by rw [hmid.out.many]; omega) (by simp; omega) ?_; intro g4 cap4 w4 hown4 hgr4 hat4; rw [hmid.out.many] at hown4 ⊢; have hnext := Lib.hid (make_round hbw2.out h62.out hI2.out hown3.out hmid.out.apart hgr4 hat4 hown4); have k64 : Has w4 w.heap.size _ _ := (hgr4.block _ (by simp; omega) (fun e => by have := (hI2.out.lt _ e.symm).1; omega)).trans ((h62.out.alloc _) : Has _ _ _ _); have c64 := k64.get (i := 4) rfl; have f64 := k64.free 4; clear hown4 hgr4 hat4 k64))
      go_roundw
      case rel =>
        refine ⟨j + 1, g3, cap3, n3, cap4, some ⟨g4, 0, none⟩, q ++ q2, _, by omega, rfl, by go_num, hn3H.out.symm, ?_, hnext.out.1, hnext.out.2.2.1, hnext.out.2.1, hnext.out.2.2.2.2⟩
        have := hmid.out.next hnext.out.2.2.2.1
        rw [hn3H.out] at this
        exact this
      case measure => simp [intOf]; omega
    · obtain rfl : j = n := by omega
      have hw := Lib.hid ((show MakeOk ps ps.length q ks (.slice K j kc) by rw [hnH.out]; exact hok.out).whole hk ho ht hu (by rw [hnH.out]; exact h2) (by rw [hnH.out]; exact h8))
      have c60 := h6.get (i := 0) rfl
      have c61 := h6.get (i := 1) rfl
      have c62 := h6.get (i := 2) rfl
      have c63 := h6.get (i := 3) rfl
      have c64 := h6.get (i := 4) rfl
      have hb0 := h6.lt
      clear h6
      have hkid := Lib.hid (show OwnI wr (w.heap.size + 1) (.slice K j kc) (PNode.mk k o t u ks).kids from hI.out)
      go_wp2_with (at_builtin; refine app_nodes (by rfl) _ _ (by rfl) (w.heap.size + 1) _ q (by rfl) (hQ.out.alloc _) _ 1 1 [(⟨k, o, t, u, ks⟩, .slice K j kc)] (by rfl) rfl (one_newn _ (⟨k, o, t, u, ks⟩, .slice K j kc) _) (fun r hr => by obtain rfl := List.mem_singleton.1 hr; exact hkid.out.alloc _) (List.pairwise_singleton _ _) (fun r hr r2 hr2 => by obtain rfl := List.mem_singleton.1 hr2; exact hok.out.apart r hr) (by have := hn1.out; omega) (by simp; omega) ?_; intro v' w2 hown' hb2 hgr hnil; have hown3 := Lib.hid hown'; clear hown' hgr hnil)
      go_ret
      exact ⟨v', _, rfl, ⟨_, rfl, hown3.out.lower (Nat.le_succ _)⟩, hw.out.1, hw.out.2, (hb.alloc hb.size _).trans (hb2.mono (Nat.le_succ _))⟩
end Go.Proofs.YtlabmboedjnpmaaGreatDoor
