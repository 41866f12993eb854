/- Rows of slices of nodes that the call itself has made; and such rows as they are handed on. -/
import Derived.Test.YtlabmboedjnpmaaShift
import Derived.Test.YtlabmboedjnpmaaGoodPure
namespace Go.Proofs.Ytlabmboedjnpmaa
open Go.RowKit
set_option linter.unusedVariables false

/-- a row of slices of nodes, all of them the call's own -/
def OwnP (w : World) (base : Nat) (v : Value) (ps : List (Value × List PNode)) : Prop := w.ownsRow base 52 1 v ps.length (ps.map Prod.fst) ∧ ∀ p ∈ ps, OwnN w base p.1 p.2
/-- a row of slices of nodes, to be read -/
def PartsIn (w : World) (v : Value) (ps : List (Value × List PNode)) : Prop :=
  ∃ A c, v = .slice A ps.length c ∧ ps.length ≤ c ∧ c ≤ maxLen ∧ (0 < ps.length → ∃ b off, A = some ⟨b, off, none⟩ ∧ b < w.heap.size ∧ ∀ i p, ps[i]? = some p → w.cell? ⟨b, off + i, none⟩ = some p.1) ∧ ∀ p ∈ ps, NodesIn w w.heap.size p.1 p.2
section
variable {w w' : World} {base : Nat} {v : Value} {ps : List (Value × List PNode)}
theorem OwnP.below {B : Nat} (h : OwnP w base v ps) (hb : Below B w w') (hB : w.heap.size ≤ B) : OwnP w' base v ps :=
  ⟨row_keep h.1 fun k hk => hb.block k (Nat.lt_of_lt_of_le (h.1.lt k hk).2 hB), fun p hp => (h.2 p hp).below hb hB⟩
theorem OwnP.alloc (h : OwnP w base v ps) (o : Obj) : OwnP (w.alloc o) base v ps := h.below ((Below.refl _ _).alloc (Nat.le_refl _) o) (Nat.le_refl _)
theorem OwnP.away {g : Nat} (h : OwnP w base v ps) (ha : Away g w w') (hg : g < base) : OwnP w' base v ps :=
  ⟨row_keep h.1 fun k hk => ha.block k (h.1.lt k hk).2 (by have := (h.1.lt k hk).1; omega), fun p hp => (h.2 p hp).away ha hg⟩
theorem OwnP.start (w : World) {base : Nat} (hb : base ≤ w.heap.size) : OwnP (w.alloc (.cells #[] 52)) base (.slice (some ⟨w.heap.size, 0, none⟩) 0 0) [] :=
  ⟨World.ownsRow_lit w #[] 0 hb (Nat.zero_le _) rfl, fun p hp => (List.not_mem_nil hp).elim⟩
theorem OwnN.goodNodes {l : List PNode} (h : OwnN w base v l) (hg : GoodT l) (hl : l.length ≤ 1048576) : NodesIn w w.heap.size v l :=
  h.nodes (fun nd hn => ((hg nd hn).okN hl).1) (fun nd hn => ((hg nd hn).okN hl).2)
theorem OwnP.parts (h : OwnP w base v ps) (hg : ∀ p ∈ ps, GoodT p.2) (hl : sumLen ps ≤ 1048576) : PartsIn w v ps := by
  have hl2 : ∀ p ∈ ps, p.2.length ≤ 1048576 := fun p hp => by
    obtain ⟨i, hi⟩ := List.mem_iff_getElem?.1 hp
    have h1 := sumLen_take hi
    have h2 := sumLen_take_le ps (i + 1)
    omega
  have hn : ∀ p ∈ ps, NodesIn w w.heap.size p.1 p.2 := fun p hp => (h.2 p hp).goodNodes (hg p hp) (hl2 p hp)
  rcases row_open h.1 with ⟨rfl, h0⟩ | ⟨g, cap, rfl, hb, hgl, q1, q2, hc⟩
  · exact ⟨none, 0, by rw [h0], by rw [h0]; exact Nat.le_refl _, Nat.zero_le _, fun hp => by omega, hn⟩
  · refine ⟨_, cap, rfl, q1, q2, fun _ => ⟨g, 0, rfl, hgl, fun i p hp => ?_⟩, hn⟩
    rw [Nat.zero_add]
    exact hc i p.1 (by rw [List.getElem?_map, hp]; rfl)
end
theorem PartsIn.one {w : World} {base : Nat} {v : Value} {l : List PNode} (h : OwnN w base v l) (hg : GoodT l) (hl : l.length ≤ 1048576) : PartsIn (w.alloc (.cells #[v] 52)) (.slice (some ⟨w.heap.size, 0, none⟩) 1 1) [(v, l)] := by
  refine ⟨_, 1, rfl, Nat.le_refl _, by unfold maxLen; omega, fun _ => ⟨w.heap.size, 0, rfl, by simp, fun i p hp => ?_⟩, fun p hp => ?_⟩
  · rw [Nat.zero_add, World.cell?_alloc_new]
    match i, hp with
    | 0, hp => obtain rfl := Option.some.inj hp; rfl
  · obtain rfl := List.mem_singleton.1 hp
    exact (h.alloc _).goodNodes hg hl
theorem PartsIn.two {w : World} {base base2 : Nat} {v v2 : Value} {l l2 : List PNode} (h : OwnN w base v l) (h2 : OwnN w base2 v2 l2) (hg : GoodT l) (hg2 : GoodT l2) (hl : l.length ≤ 1048576) (hl2 : l2.length ≤ 1048576) : PartsIn (w.alloc (.cells #[v, v2] 52)) (.slice (some ⟨w.heap.size, 0, none⟩) 2 2) [(v, l), (v2, l2)] := by
  refine ⟨_, 2, rfl, Nat.le_refl _, by unfold maxLen; omega, fun _ => ⟨w.heap.size, 0, rfl, by simp, fun i p hp => ?_⟩, fun p hp => ?_⟩
  · rw [Nat.zero_add, World.cell?_alloc_new]
    match i, hp with
    | 0, hp => obtain rfl := Option.some.inj hp; rfl
    | 1, hp => obtain rfl := Option.some.inj hp; rfl
  · simp only [List.mem_cons, List.not_mem_nil, or_false] at hp
    rcases hp with rfl | rfl
    · exact (h.alloc _).goodNodes hg hl
    · exact (h2.alloc _).goodNodes hg2 hl2
theorem PartsIn.three {w : World} {base base2 base3 : Nat} {v v2 v3 : Value} {l l2 l3 : List PNode} (h : OwnN w base v l) (h2 : OwnN w base2 v2 l2) (h3 : OwnN w base3 v3 l3) (hg : GoodT l) (hg2 : GoodT l2) (hg3 : GoodT l3) (hl : l.length ≤ 1048576) (hl2 : l2.length ≤ 1048576) (hl3 : l3.length ≤ 1048576) : PartsIn (w.alloc (.cells #[v, v2, v3] 52)) (.slice (some ⟨w.heap.size, 0, none⟩) 3 3) [(v, l), (v2, l2), (v3, l3)] := by
  refine ⟨_, 3, rfl, Nat.le_refl _, by unfold maxLen; omega, fun _ => ⟨w.heap.size, 0, rfl, by simp, fun i p hp => ?_⟩, fun p hp => ?_⟩
  · rw [Nat.zero_add, World.cell?_alloc_new]
    match i, hp with
    | 0, hp => obtain rfl := Option.some.inj hp; rfl
    | 1, hp => obtain rfl := Option.some.inj hp; rfl
    | 2, hp => obtain rfl := Option.some.inj hp; rfl
  · simp only [List.mem_cons, List.not_mem_nil, or_false] at hp
    rcases hp with rfl | rfl | rfl
    · exact (h.alloc _).goodNodes hg hl
    · exact (h2.alloc _).goodNodes hg2 hl2
    · exact (h3.alloc _).goodNodes hg3 hl3
theorem PartsIn.four {w : World} {base base2 base3 base4 : Nat} {v v2 v3 v4 : Value} {l l2 l3 l4 : List PNode} (h : OwnN w base v l) (h2 : OwnN w base2 v2 l2) (h3 : OwnN w base3 v3 l3) (h4 : OwnN w base4 v4 l4) (hg : GoodT l) (hg2 : GoodT l2) (hg3 : GoodT l3) (hg4 : GoodT l4) (hl : l.length ≤ 1048576) (hl2 : l2.length ≤ 1048576) (hl3 : l3.length ≤ 1048576) (hl4 : l4.length ≤ 1048576) : PartsIn (w.alloc (.cells #[v, v2, v3, v4] 52)) (.slice (some ⟨w.heap.size, 0, none⟩) 4 4) [(v, l), (v2, l2), (v3, l3), (v4, l4)] := by
  refine ⟨_, 4, rfl, Nat.le_refl _, by unfold maxLen; omega, fun _ => ⟨w.heap.size, 0, rfl, by simp, fun i p hp => ?_⟩, fun p hp => ?_⟩
  · rw [Nat.zero_add, World.cell?_alloc_new]
    match i, hp with
    | 0, hp => obtain rfl := Option.some.inj hp; rfl
    | 1, hp => obtain rfl := Option.some.inj hp; rfl
    | 2, hp => obtain rfl := Option.some.inj hp; rfl
    | 3, hp => obtain rfl := Option.some.inj hp; rfl
  · simp only [List.mem_cons, List.not_mem_nil, or_false] at hp
    rcases hp with rfl | rfl | rfl | rfl
    · exact (h.alloc _).goodNodes hg hl
    · exact (h2.alloc _).goodNodes hg2 hl2
    · exact (h3.alloc _).goodNodes hg3 hl3
    · exact (h4.alloc _).goodNodes hg4 hl4
theorem info_nodes : (Try.prog.info? 52).map (fun i => (i.zero, i.size, i.bytes)) = some (some (.slice none 0 0), 1, 24) := by kernel_rfl
theorem app_part {ops : Array Oper} {rest : List Oper} {o : Oper} {a : Act} {Q : Exit → Act → World → Prop} {w : World} (hgd : o.guard = none) (s x : Operand)
    (ho : o.op = .call { callee := .builtin .append, args := #[s, x], argTypes := #[61, 61] }) (base : Nat) (v : Value) (ps : List (Value × List PNode)) (hs : a.eval s = v) (hown : OwnP w base v ps)
    (g c : Nat) (p : Value × List PNode) (hx : a.eval x = .slice (some ⟨g, 0, none⟩) 1 c) (hnew : Has w g 52 #[p.1]) (hp : OwnN w base p.1 p.2)
    (hsz : ps.length + 1 ≤ 1048576) (hbase : base ≤ w.heap.size)
    (h : ∀ v' w', OwnP w' base v' (ps ++ [p]) → Below base w w' → v' ≠ .slice none 0 0 → wpList Try.prog ops Q rest (a.put o.dst v') w') : wpList Try.prog ops Q (o :: rest) a w := by
  obtain ⟨i0, hi, hz0, hz1, hz2⟩ := info_parts info_nodes
  refine wpList_append_own_at w hgd s x 61 ho base 52 i0 _ 1 24 Try.underlying61 hi hz0 hz1 hz2 rfl (by decide) v ps.length _ hs hown.1 ⟨g, 0, none⟩ 1 c [p.1] hx rfl (World.news_of_block hnew) ?_ (by unfold maxLen; omega) (by omega) hbase ?_
  · intro u hu
    obtain rfl := List.mem_singleton.1 hu
    obtain ⟨q, _, hq⟩ := hp
    exact row_one hq.1
  · intro v' w' h2 h3 h4 h5
    refine h v' w' ⟨?_, ?_⟩ ((Below.refl base w).grown h3 hbase (fun k hk => (World.ownsRow.lt hown.1 k hk).1)) (fun e => absurd (h4.1 e).2 (by decide))
    · rw [List.length_append, List.map_append]
      exact h2
    · intro r hr
      have hr2 : OwnN w base r.1 r.2 := by
        rcases List.mem_append.1 hr with hr | hr
        · exact hown.2 r hr
        · obtain rfl := List.mem_singleton.1 hr
          exact hp
      exact hr2.grown h3 (T := 52) ⟨by decide, by decide⟩ fun k hk => (row_has hown.1 hk).2
theorem app_int1 {ops : Array Oper} {rest : List Oper} {o : Oper} {a : Act} {Q : Exit → Act → World → Prop} {w : World} (hgd : o.guard = none) (s x : Operand)
    (ho : o.op = .call { callee := .builtin .append, args := #[s, x], argTypes := #[24, 24] }) (base : Nat) (v : Value) (l : List Int) (hs : a.eval s = v) (hown : OwnI w base v l)
    (g c : Nat) (y : Int) (hx : a.eval x = .slice (some ⟨g, 0, none⟩) 1 c) (hnew : Has w g 3 #[.int .i64 y])
    (hsz : l.length + 1 ≤ 1048576) (hbase : base ≤ w.heap.size)
    (h : ∀ g' cap w', OwnI w' base (.slice (some ⟨g', 0, none⟩) (l.length + 1) cap) (l ++ [y]) → w.grownBy w' v.ownBlock → (v.ownBlock = some g' ∨ g' = w.heap.size) → wpList Try.prog ops Q rest (a.put o.dst (.slice (some ⟨g', 0, none⟩) (l.length + 1) cap)) w') : wpList Try.prog ops Q (o :: rest) a w := by
  obtain ⟨i0, hi, hz0, hz1, hz2⟩ := info_parts info_int
  refine wpList_append_own_at w hgd s x 24 ho base 3 i0 _ 1 8 Try.underlying24 hi hz0 hz1 hz2 rfl (by decide) v l.length _ hs hown ⟨g, 0, none⟩ 1 c [.int .i64 y] hx rfl (World.news_of_block hnew) ?_ (by unfold maxLen; omega) (by omega) hbase ?_
  · intro u hu
    obtain rfl := List.mem_singleton.1 hu
    rfl
  · intro v' w' h2 h3 h4 h5
    have h6 : OwnI w' base v' (l ++ [y]) := by
      unfold OwnI
      rw [List.length_append, List.map_append]
      exact h2
    rcases h6.open with ⟨_, e⟩ | ⟨g', cap, e, _⟩
    · simp at e
    · rw [List.length_append] at e
      subst e
      exact h g' cap w' h6 h3 (h5.elim (fun e => Or.inl e.symm) fun e => Or.inr (Option.some.inj e))
end Go.Proofs.Ytlabmboedjnpmaa
