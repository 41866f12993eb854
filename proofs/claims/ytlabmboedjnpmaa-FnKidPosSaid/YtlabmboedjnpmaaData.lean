/- Tokens and nodes as plain data, and what it is to lie in memory as such. No program is in sight here. -/
import Derived.Test.YtlabmboedjnpmaaMem
namespace Go.Proofs.Ytlabmboedjnpmaa
open Go.RowKit
set_option linter.unusedVariables false

structure PTok where
  kind : Int
  text : ByteArray
  at_ : Int
structure PNode where
  kind : Int
  op : Int
  text : ByteArray
  other : ByteArray
  kids : List Int
structure PPos where
  level : Int
  dollar : Bool
  noIn : Bool
  noGt : Bool
  noSign : Bool

def okInt (x : Int) : Prop := -9223372036854775808 ≤ x ∧ x ≤ 9223372036854775807
theorem okInt_of {a : Int} (h : (Lit.int .i64 a).wf = true) : okInt a := by
  simpa [okInt, Lit.wf, IntKind.min, IntKind.max, IntKind.signed, IntKind.bits] using h

/-- a slice of ints that lies below block B -/
def IntsIn (w : World) (B : Nat) (v : Value) (l : List Int) : Prop :=
  ∃ A c, v = .slice A l.length c ∧ l.length ≤ c ∧ c ≤ maxLen ∧
    (0 < l.length → ∃ b off, A = some ⟨b, off, none⟩ ∧ b < B ∧ ∀ i x, l[i]? = some x → w.cell? ⟨b, off + i, none⟩ = some (.int .i64 x)) ∧
    ∀ x ∈ l, okInt x
/-- a slice of tokens that lies below block B -/
def ToksIn (w : World) (B : Nat) (v : Value) (l : List PTok) : Prop :=
  ∃ A c, v = .slice A l.length c ∧ l.length ≤ c ∧ c ≤ maxLen ∧
    (0 < l.length → ∃ b off, A = some ⟨b, off, none⟩ ∧ b < B ∧ ∀ i t, l[i]? = some t → w.cell? ⟨b, off + i * 3, none⟩ = some (.int .i64 t.kind) ∧ w.cell? ⟨b, off + i * 3 + 1, none⟩ = some (.string t.text) ∧ w.cell? ⟨b, off + i * 3 + 2, none⟩ = some (.int .i64 t.at_)) ∧
    ∀ t ∈ l, okInt t.kind ∧ t.text.size ≤ maxLen ∧ okInt t.at_
/-- a slice of nodes that lies below block B, and so do its kids -/
def NodesIn (w : World) (B : Nat) (v : Value) (l : List PNode) : Prop :=
  ∃ A c, v = .slice A l.length c ∧ l.length ≤ c ∧ c ≤ maxLen ∧
    (0 < l.length → ∃ b off, A = some ⟨b, off, none⟩ ∧ b < B ∧ ∀ i nd, l[i]? = some nd → ∃ kv, w.cell? ⟨b, off + i * 5, none⟩ = some (.int .i64 nd.kind) ∧ w.cell? ⟨b, off + i * 5 + 1, none⟩ = some (.int .i64 nd.op) ∧
      w.cell? ⟨b, off + i * 5 + 2, none⟩ = some (.string nd.text) ∧ w.cell? ⟨b, off + i * 5 + 3, none⟩ = some (.string nd.other) ∧ w.cell? ⟨b, off + i * 5 + 4, none⟩ = some kv ∧ IntsIn w B kv nd.kids) ∧
    ∀ nd ∈ l, okInt nd.kind ∧ okInt nd.op ∧ nd.text.size ≤ maxLen ∧ nd.other.size ≤ maxLen
/-- a token by value -/
def TokIs (v : Value) (t : PTok) : Prop := v = .agg #[.int .i64 t.kind, .string t.text, .int .i64 t.at_] ∧ okInt t.kind ∧ t.text.size ≤ maxLen ∧ okInt t.at_
/-- a node by value -/
def NodeIs (w : World) (B : Nat) (v : Value) (nd : PNode) : Prop :=
  ∃ kv, v = .agg #[.int .i64 nd.kind, .int .i64 nd.op, .string nd.text, .string nd.other, kv] ∧ IntsIn w B kv nd.kids ∧ okInt nd.kind ∧ okInt nd.op ∧ nd.text.size ≤ maxLen ∧ nd.other.size ≤ maxLen
/-- a position by value -/
def PosIs (v : Value) (p : PPos) : Prop := v = .agg #[.int .i64 p.level, .bool p.dollar, .bool p.noIn, .bool p.noGt, .bool p.noSign] ∧ okInt p.level

section
variable {w w' : World} {B B' : Nat} {v : Value}
theorem IntsIn.keep {l : List Int} (h : IntsIn w B v l) (hb : Below B' w w') (hB : B ≤ B') : IntsIn w' B v l := by
  obtain ⟨A, c, hv, h1, h2, h3, h4⟩ := h
  refine ⟨A, c, hv, h1, h2, fun hp => ?_, h4⟩
  obtain ⟨b, off, hA, hlt, hc⟩ := h3 hp
  exact ⟨b, off, hA, hlt, fun i x hx => (hb.cell (p := ⟨b, off + i, none⟩) (by show b < B'; omega)).trans (hc i x hx)⟩
theorem IntsIn.more {l : List Int} (h : IntsIn w B v l) (hB : B ≤ B') : IntsIn w B' v l := by
  obtain ⟨A, c, hv, h1, h2, h3, h4⟩ := h
  refine ⟨A, c, hv, h1, h2, fun hp => ?_, h4⟩
  obtain ⟨b, off, hA, hlt, hc⟩ := h3 hp
  exact ⟨b, off, hA, by omega, hc⟩
theorem ToksIn.keep {l : List PTok} (h : ToksIn w B v l) (hb : Below B' w w') (hB : B ≤ B') : ToksIn w' B v l := by
  obtain ⟨A, c, hv, h1, h2, h3, h4⟩ := h
  refine ⟨A, c, hv, h1, h2, fun hp => ?_, h4⟩
  obtain ⟨b, off, hA, hlt, hc⟩ := h3 hp
  have k : ∀ o, w'.cell? ⟨b, o, none⟩ = w.cell? ⟨b, o, none⟩ := fun o => hb.cell (p := ⟨b, o, none⟩) (by show b < B'; omega)
  exact ⟨b, off, hA, hlt, fun i x hx => by simp only [k]; exact hc i x hx⟩
theorem ToksIn.more {l : List PTok} (h : ToksIn w B v l) (hB : B ≤ B') : ToksIn w B' v l := by
  obtain ⟨A, c, hv, h1, h2, h3, h4⟩ := h
  refine ⟨A, c, hv, h1, h2, fun hp => ?_, h4⟩
  obtain ⟨b, off, hA, hlt, hc⟩ := h3 hp
  exact ⟨b, off, hA, by omega, hc⟩
theorem NodesIn.keep {l : List PNode} (h : NodesIn w B v l) (hb : Below B' w w') (hB : B ≤ B') : NodesIn w' B v l := by
  obtain ⟨A, c, hv, h1, h2, h3, h4⟩ := h
  refine ⟨A, c, hv, h1, h2, fun hp => ?_, h4⟩
  obtain ⟨b, off, hA, hlt, hc⟩ := h3 hp
  have k : ∀ o, w'.cell? ⟨b, o, none⟩ = w.cell? ⟨b, o, none⟩ := fun o => hb.cell (p := ⟨b, o, none⟩) (by show b < B'; omega)
  refine ⟨b, off, hA, hlt, fun i x hx => ?_⟩
  simp only [k]
  obtain ⟨kv, e0, e1, e2, e3, e4, hk⟩ := hc i x hx
  exact ⟨kv, e0, e1, e2, e3, e4, hk.keep hb hB⟩
theorem NodesIn.more {l : List PNode} (h : NodesIn w B v l) (hB : B ≤ B') : NodesIn w B' v l := by
  obtain ⟨A, c, hv, h1, h2, h3, h4⟩ := h
  refine ⟨A, c, hv, h1, h2, fun hp => ?_, h4⟩
  obtain ⟨b, off, hA, hlt, hc⟩ := h3 hp
  refine ⟨b, off, hA, by omega, fun i x hx => ?_⟩
  obtain ⟨kv, e0, e1, e2, e3, e4, hk⟩ := hc i x hx
  exact ⟨kv, e0, e1, e2, e3, e4, hk.more hB⟩
theorem NodeIs.keep {nd : PNode} (h : NodeIs w B v nd) (hb : Below B' w w') (hB : B ≤ B') : NodeIs w' B v nd := by
  obtain ⟨kv, hv, hk, r⟩ := h
  exact ⟨kv, hv, hk.keep hb hB, r⟩
end
theorem IntsIn.nil (w : World) (B : Nat) : IntsIn w B (.slice none 0 0) [] := ⟨none, 0, rfl, Nat.le_refl _, Nat.zero_le _, fun h => absurd h (by simp), fun x hx => by simp at hx⟩

/-- a value that leads, if anywhere, to a block from b on -/
def FromOn (b : Nat) (v : Value) : Prop := ∀ k, v.ownBlock = some k → b ≤ k
theorem IntsIn.store {w : World} {B : Nat} {v : Value} {l : List Int} (h : IntsIn w B v l) {b : Nat} (hv : FromOn b v) {p : Addr} (hp : p.block < b) (u : Value) : IntsIn (w.setCell p u) B v l := by
  obtain ⟨A, c, rfl, h1, h2, h3, h4⟩ := h
  refine ⟨A, c, rfl, h1, h2, fun hpos => ?_, h4⟩
  obtain ⟨b', off, rfl, hlt, hc⟩ := h3 hpos
  have hb : b ≤ b' := hv b' rfl
  exact ⟨b', off, rfl, hlt, fun i x hx => (World.cell?_setCell_other w p ⟨b', off + i, none⟩ u (fun e => by subst e; simp at hp; omega)).trans (hc i x hx)⟩
theorem IntsIn.alloc {w : World} {B : Nat} {v : Value} {l : List Int} (h : IntsIn w B v l) (hB : B ≤ w.heap.size) (o : Obj) : IntsIn (w.alloc o) B v l :=
  h.keep ((Below.refl _ w).alloc (Nat.le_refl _) o) hB
def nodeBulk (nd : PNode) : Nat := nd.text.size + nd.other.size + nd.kids.length
def bulkSum : List PNode → Nat
  | [] => 0
  | nd :: r => nodeBulk nd + bulkSum r
def nodesBulk (l : List PNode) : Nat := l.length + bulkSum l
def tokSum : List PTok → Nat
  | [] => 0
  | t :: r => t.text.size + tokSum r
def toksBulk (l : List PTok) : Nat := l.length + tokSum l
/-- what is left of a number of letters -/
def subB (left : Int) (b : Nat) : Int := if left < b then -1 else left - b
theorem subB_pos {left : Int} {b : Nat} (h : 0 ≤ subB left b) : (b : Int) ≤ left ∧ subB left b = left - b := by
  unfold subB at h ⊢
  by_cases hl : left < b
  · rw [if_pos hl] at h; omega
  · rw [if_neg hl]; omega
theorem bulkSum_append (a b : List PNode) : bulkSum (a ++ b) = bulkSum a + bulkSum b := by
  induction a with
  | nil => simp [bulkSum]
  | cons x a ih => simp only [List.cons_append, bulkSum, ih]; omega
theorem tokSum_append (a b : List PTok) : tokSum (a ++ b) = tokSum a + tokSum b := by
  induction a with
  | nil => simp [tokSum]
  | cons x a ih => simp only [List.cons_append, tokSum, ih]; omega
theorem bulk_mem {l : List PNode} {nd : PNode} (h : nd ∈ l) : nodeBulk nd ≤ bulkSum l := by
  induction l with
  | nil => simp at h
  | cons x l ih =>
    simp only [bulkSum]
    rcases List.mem_cons.1 h with rfl | h
    · omega
    · have := ih h; omega
theorem tok_mem {l : List PTok} {t : PTok} (h : t ∈ l) : t.text.size ≤ tokSum l := by
  induction l with
  | nil => simp at h
  | cons x l ih =>
    simp only [tokSum]
    rcases List.mem_cons.1 h with rfl | h
    · omega
    · have := ih h; omega
theorem bulk_take {l : List PNode} {j : Nat} {nd : PNode} (h : l[j]? = some nd) : bulkSum (l.take (j + 1)) = bulkSum (l.take j) + nodeBulk nd := by
  rw [List.take_add_one, h, bulkSum_append]
  simp [bulkSum]
theorem bulk_take_le (l : List PNode) (j : Nat) : bulkSum (l.take j) ≤ bulkSum l := by
  have := bulkSum_append (l.take j) (l.drop j)
  rw [List.take_append_drop] at this
  omega
theorem tok_take {l : List PTok} {j : Nat} {t : PTok} (h : l[j]? = some t) : tokSum (l.take (j + 1)) = tokSum (l.take j) + t.text.size := by
  rw [List.take_add_one, h, tokSum_append]
  simp [tokSum]
theorem tok_take_le (l : List PTok) (j : Nat) : tokSum (l.take j) ≤ tokSum l := by
  have := tokSum_append (l.take j) (l.drop j)
  rw [List.take_append_drop] at this
  omega
end Go.Proofs.Ytlabmboedjnpmaa
