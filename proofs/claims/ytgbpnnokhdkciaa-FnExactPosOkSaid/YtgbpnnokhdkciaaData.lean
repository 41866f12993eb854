/- Tokens and nodes as plain data, and what it is to lie in memory as such. No program is in sight here. -/
import Derived.Test.YtgbpnnokhdkciaaMem
namespace Go.Proofs.Ytgbpnnokhdkciaa
open Go.RowKit
set_option linter.unusedVariables false

structure PTok where
  kind : Int
  text : ByteArray
  at_ : Int
structure PNode where
  kind : Int
  op : Int
  text : ByteArray
  other : ByteArray
  kids : List Int
structure PPos where
  level : Int
  dollar : Bool
  noIn : Bool
  noGt : Bool
  noSign : Bool

def okInt (x : Int) : Prop := -9223372036854775808 ≤ x ∧ x ≤ 9223372036854775807
theorem okInt_of {a : Int} (h : (Lit.int .i64 a).wf = true) : okInt a := by
  simpa [okInt, Lit.wf, IntKind.min, IntKind.max, IntKind.signed, IntKind.bits] using h

/-- a slice of ints that lies below block B -/
def IntsIn (w : World) (B : Nat) (v : Value) (l : List Int) : Prop :=
  ∃ A c, v = .slice A l.length c ∧ l.length ≤ c ∧ c ≤ maxLen ∧
    (0 < l.length → ∃ b off, A = some ⟨b, off, none⟩ ∧ b < B ∧ ∀ i x, l[i]? = some x → w.cell? ⟨b, off + i, none⟩ = some (.int .i64 x)) ∧
    ∀ x ∈ l, okInt x
/-- a slice of tokens that lies below block B -/
def ToksIn (w : World) (B : Nat) (v : Value) (l : List PTok) : Prop :=
  ∃ A c, v = .slice A l.length c ∧ l.length ≤ c ∧ c ≤ maxLen ∧
    (0 < l.length → ∃ b off, A = some ⟨b, off, none⟩ ∧ b < B ∧ ∀ i t, l[i]? = some t → w.cell? ⟨b, off + i * 3, none⟩ = some (.int .i64 t.kind) ∧ w.cell? ⟨b, off + i * 3 + 1, none⟩ = some (.string t.text) ∧ w.cell? ⟨b, off + i * 3 + 2, none⟩ = some (.int .i64 t.at_)) ∧
    ∀ t ∈ l, okInt t.kind ∧ t.text.size ≤ maxLen ∧ okInt t.at_
/-- a slice of nodes that lies below block B, and so do its kids -/
def NodesIn (w : World) (B : Nat) (v : Value) (l : List PNode) : Prop :=
  ∃ A c, v = .slice A l.length c ∧ l.length ≤ c ∧ c ≤ maxLen ∧
    (0 < l.length → ∃ b off, A = some ⟨b, off, none⟩ ∧ b < B ∧ ∀ i nd, l[i]? = some nd → ∃ kv, w.cell? ⟨b, off + i * 5, none⟩ = some (.int .i64 nd.kind) ∧ w.cell? ⟨b, off + i * 5 + 1, none⟩ = some (.int .i64 nd.op) ∧
      w.cell? ⟨b, off + i * 5 + 2, none⟩ = some (.string nd.text) ∧ w.cell? ⟨b, off + i * 5 + 3, none⟩ = some (.string nd.other) ∧ w.cell? ⟨b, off + i * 5 + 4, none⟩ = some kv ∧ IntsIn w B kv nd.kids) ∧
    ∀ nd ∈ l, okInt nd.kind ∧ okInt nd.op ∧ nd.text.size ≤ maxLen ∧ nd.other.size ≤ maxLen
/-- a token by value -/
def TokIs (v : Value) (t : PTok) : Prop := v = .agg #[.int .i64 t.kind, .string t.text, .int .i64 t.at_] ∧ okInt t.kind ∧ t.text.size ≤ maxLen ∧ okInt t.at_
/-- a node by value -/
def NodeIs (w : World) (B : Nat) (v : Value) (nd : PNode) : Prop :=
  ∃ kv, v = .agg #[.int .i64 nd.kind, .int .i64 nd.op, .string nd.text, .string nd.other, kv] ∧ IntsIn w B kv nd.kids ∧ okInt nd.kind ∧ okInt nd.op ∧ nd.text.size ≤ maxLen ∧ nd.other.size ≤ maxLen
/-- a position by value -/
def PosIs (v : Value) (p : PPos) : Prop := v = .agg #[.int .i64 p.level, .bool p.dollar, .bool p.noIn, .bool p.noGt, .bool p.noSign] ∧ okInt p.level

section
variable {w w' : World} {B B' : Nat} {v : Value}
theorem IntsIn.keep {l : List Int} (h : IntsIn w B v l) (hb : Below B' w w') (hB : B ≤ B') : IntsIn w' B v l := by
  obtain ⟨A, c, hv, h1, h2, h3, h4⟩ := h
  refine ⟨A, c, hv, h1, h2, fun hp => ?_, h4⟩
  obtain ⟨b, off, hA, hlt, hc⟩ := h3 hp
  exact ⟨b, off, hA, hlt, fun i x hx => (hb.cell (p := ⟨b, off + i, none⟩) (by show b < B'; omega)).trans (hc i x hx)⟩
theorem IntsIn.more {l : List Int} (h : IntsIn w B v l) (hB : B ≤ B') : IntsIn w B' v l := by
  obtain ⟨A, c, hv, h1, h2, h3, h4⟩ := h
  refine ⟨A, c, hv, h1, h2, fun hp => ?_, h4⟩
  obtain ⟨b, off, hA, hlt, hc⟩ := h3 hp
  exact ⟨b, off, hA, by omega, hc⟩
theorem ToksIn.keep {l : List PTok} (h : ToksIn w B v l) (hb : Below B' w w') (hB : B ≤ B') : ToksIn w' B v l := by
  obtain ⟨A, c, hv, h1, h2, h3, h4⟩ := h
  refine ⟨A, c, hv, h1, h2, fun hp => ?_, h4⟩
  obtain ⟨b, off, hA, hlt, hc⟩ := h3 hp
  have k : ∀ o, w'.cell? ⟨b, o, none⟩ = w.cell? ⟨b, o, none⟩ := fun o => hb.cell (p := ⟨b, o, none⟩) (by show b < B'; omega)
  exact ⟨b, off, hA, hlt, fun i x hx => by simp only [k]; exact hc i x hx⟩
theorem ToksIn.more {l : List PTok} (h : ToksIn w B v l) (hB : B ≤ B') : ToksIn w B' v l := by
  obtain ⟨A, c, hv, h1, h2, h3, h4⟩ := h
  refine ⟨A, c, hv, h1, h2, fun hp => ?_, h4⟩
  obtain ⟨b, off, hA, hlt, hc⟩ := h3 hp
  exact ⟨b, off, hA, by omega, hc⟩
theorem NodesIn.keep {l : List PNode} (h : NodesIn w B v l) (hb : Below B' w w') (hB : B ≤ B') : NodesIn w' B v l := by
  obtain ⟨A, c, hv, h1, h2, h3, h4⟩ := h
  refine ⟨A, c, hv, h1, h2, fun hp => ?_, h4⟩
  obtain ⟨b, off, hA, hlt, hc⟩ := h3 hp
  have k : ∀ o, w'.cell? ⟨b, o, none⟩ = w.cell? ⟨b, o, none⟩ := fun o => hb.cell (p := ⟨b, o, none⟩) (by show b < B'; omega)
  refine ⟨b, off, hA, hlt, fun i x hx => ?_⟩
  simp only [k]
  obtain ⟨kv, e0, e1, e2, e3, e4, hk⟩ := hc i x hx
  exact ⟨kv, e0, e1, e2, e3, e4, hk.keep hb hB⟩
theorem NodesIn.more {l : List PNode} (h : NodesIn w B v l) (hB : B ≤ B') : NodesIn w B' v l := by
  obtain ⟨A, c, hv, h1, h2, h3, h4⟩ := h
  refine ⟨A, c, hv, h1, h2, fun hp => ?_, h4⟩
  obtain ⟨b, off, hA, hlt, hc⟩ := h3 hp
  refine ⟨b, off, hA, by omega, fun i x hx => ?_⟩
  obtain ⟨kv, e0, e1, e2, e3, e4, hk⟩ := hc i x hx
  exact ⟨kv, e0, e1, e2, e3, e4, hk.more hB⟩
theorem NodeIs.keep {nd : PNode} (h : NodeIs w B v nd) (hb : Below B' w w') (hB : B ≤ B') : NodeIs w' B v nd := by
  obtain ⟨kv, hv, hk, r⟩ := h
  exact ⟨kv, hv, hk.keep hb hB, r⟩
end
theorem IntsIn.nil (w : World) (B : Nat) : IntsIn w B (.slice none 0 0) [] := ⟨none, 0, rfl, Nat.le_refl _, Nat.zero_le _, fun h => absurd h (by simp), fun x hx => by simp at hx⟩
end Go.Proofs.Ytgbpnnokhdkciaa
