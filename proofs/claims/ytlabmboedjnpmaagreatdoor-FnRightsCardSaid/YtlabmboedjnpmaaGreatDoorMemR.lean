/- Several texts in one (printed by a program): Mem, OpenBase, Data, DrawPure. -/
import Derived.Test.YtlabmboedjnpmaaGreatDoorPureR
import Derived.Laws.Rows
import Derived.Laws.NewBlocks
import Derived.Laws.MakeOwn
import Derived.Deep.Draws
import Derived.ProofKit
import Derived.Deep.Slices
import Derived.Deep.Fields
import Derived.ChangeSame
import Derived.Lib.SmallJoins
import Derived.IntWalk
import Derived.Below
/-! Mem -/
namespace Go.Proofs.YtlabmboedjnpmaaGreatDoor
open Go.RowKit

/-- block g holds just these cells, none of them frozen -/
def Has (w : World) (g : Nat) (t : TypeId) (cs : Array Value) : Prop := w.heap[g]? = some (.cells cs t (0, 0))
section
variable {w w' : World} {g : Nat} {t : TypeId} {cs : Array Value}
theorem Has.lt (h : Has w g t cs) : g < w.heap.size := by
  unfold Has at h
  by_cases hg : g < w.heap.size
  · exact hg
  · rw [Array.getElem?_eq_none (by omega)] at h; cases h
theorem Has.cell (h : Has w g t cs) (i : Nat) : w.cell? ⟨g, i, none⟩ = cs[i]? := cell_of_row w g i cs t (0, 0) h
theorem Has.free (h : Has w g t cs) (i : Nat) : w.frozen? ⟨g, i, none⟩ = false := by
  unfold Has at h; simp [World.frozen?, h]
theorem Has.made (w : World) (t : TypeId) (cs : Array Value) : Has (w.alloc (.cells cs t)) w.heap.size t cs := by
  show (w.heap.push _)[w.heap.size]? = _
  simp
theorem Has.alloc (h : Has w g t cs) (o : Obj) : Has (w.alloc o) g t cs := by
  have e := Below.heap_alloc w o g h.lt
  exact e.trans h
theorem Has.set (h : Has w g t cs) (i : Nat) (u : Value) : Has (w.setCell ⟨g, i, none⟩ u) g t (cs.setIfInBounds i u) := by
  unfold Has at h ⊢
  simp [World.setCell, Array.getElem?_modify, h]
theorem Has.other (h : Has w g t cs) {p : Addr} (hp : g ≠ p.block) (u : Value) : Has (w.setCell p u) g t cs :=
  (Below.heap_setCell w p u g hp).trans h
theorem Has.below {B : Nat} (h : Has w g t cs) (hb : Below B w w') (hg : g < B) : Has w' g t cs := (hb.block g hg).trans h
theorem Has.drewN (h : Has w g t cs) (n : Nat) : Has (w.drewN n) g t cs := h
theorem Has.drew (h : Has w g t cs) : Has w.drew g t cs := h
end
theorem Has.there {w : World} {g : Nat} {t : TypeId} {cs : Array Value} (h : Has w g t cs) {i : Nat} (hi : i < cs.size) : ∃ v, w.cell? ⟨g, i, none⟩ = some v := by
  rw [h.cell]; exact ⟨_, Array.getElem?_eq_getElem hi⟩
theorem Has.get {w : World} {g : Nat} {t : TypeId} {cs : Array Value} (h : Has w g t cs) {i : Nat} {v : Value} (hv : cs[i]? = some v) : w.cell? ⟨g, i, none⟩ = some v := by
  rw [h.cell]; exact hv
theorem below_drewN {B : Nat} {a w : World} (h : Below B a w) (n : Nat) : Below B a (w.drewN n) := ⟨h.os, h.tape, h.output, h.size, h.block⟩
theorem mk_slice {P : Program} (t e : TypeId) (i : TypeInfo) (z : Value) (ht : P.underlying t = some (.slice e)) (hi : P.info? e = some i) (hz : i.zero = some z) (n : Nat) (hb : i.bytes * n ≤ 281474976710656) (hn : n ≤ 16777216) (W : World) :
    (Instr.makeSlice t (.int .i64 (n : Int)) (.int .i64 (n : Int))).run P W = .ok (.slice (some ⟨W.heap.size, 0, none⟩) n n) (W.alloc (.cells (madeCells z.cells (n * i.size)) e)) := by
  have hb' : (i.bytes : Int) * (n : Int) ≤ 281474976710656 := by
    have h : ((i.bytes * n : Nat) : Int) ≤ 281474976710656 := by omega
    rwa [Int.natCast_mul] at h
  have hr := run_make (P := P) W t e i z ht hi hz .i64 .i64 n n (by omega) (Int.le_refl _) hb' (by omega)
  simpa only [Int.toNat_natCast] using hr
end Go.Proofs.YtlabmboedjnpmaaGreatDoor
/-! OpenBase -/
namespace Go.Proofs.YtlabmboedjnpmaaGreatDoor
open Go.RowKit Go.ChangeShapes Go.WideShapes Go.ChangeAt Go.Deep
set_option linter.unusedVariables false

theorem list3 {α : Type} {l : List α} (h : l.length = 3) : ∃ a b c, l = [a, b, c] := by
  match l, h with
  | [a, b, c], _ => exact ⟨a, b, c, rfl⟩
theorem list5 {α : Type} {l : List α} (h : l.length = 5) : ∃ a b c d e, l = [a, b, c, d, e] := by
  match l, h with
  | [a, b, c, d, e], _ => exact ⟨a, b, c, d, e, rfl⟩
section
variable {H : Type} {enc : TypeId × Value → H} {P : Program} {w : World} {base : Nat} {spare : Nat → Bool} {held : Bool}
/-- the cells of a struct whose fields are of one cell each: each field's own reading -/
theorem fields_of {t : TypeId} {fs : Array Field} {fuel : Nat} {cs : List Value} {x : DataW H × List MemPlace} (hs : P.underlying t = some (.struct fs)) (hone : oneCellFields P fs = true) (hC : P.cellsOf t = fs.size)
    (h : DataW.trod enc P w base spare held fuel t cs = some x) :
    cs.length = fs.size ∧ ∀ (j : Nat) (f : Field), fs[j]? = some f → ∃ (c : Value) (y : DataW H × List MemPlace) (n : Nat), cs[j]? = some c ∧ DataW.trod enc P w base spare held n f.type [c] = some y := by
  obtain ⟨xs, n, _, _, hl, hxl, hf⟩ := DataW.trod_struct hs h
  rw [hC] at hl
  refine ⟨hl, fun j f hj => ?_⟩
  obtain ⟨ho, hk⟩ := hone_of hone j f hj
  have hjl : j < fs.size := (Array.getElem?_eq_some_iff.1 hj).1
  have h1 := hf j f hj
  rw [ho, hk] at h1
  have hc : cs[j]? = some (cs[j]'(by omega)) := List.getElem?_eq_getElem (by omega)
  have htk : (cs.drop j).take 1 = [cs[j]'(by omega)] := by
    rw [List.drop_eq_getElem_cons (by omega)]; rfl
  rw [htk] at h1
  have hy : xs[j]? = some (xs[j]'(by omega)) := List.getElem?_eq_getElem (by omega)
  exact ⟨_, _, n, hc, h1.trans hy⟩

/-- the same of a value -/
theorem agg_of {r : Reach} {b0 : Nat} {t : TypeId} {fs : Array Field} {v : Value} {d : DataW H} {p : List MemPlace} (hs : P.underlying t = some (.struct fs)) (hone : oneCellFields P fs = true) (hC : P.cellsOf t = fs.size)
    (hv : Value.okWide P w r b0 t v) (h : DataW.Trod enc P w base spare held t v d p) :
    ∃ cs : List Value, v = .agg cs.toArray ∧ cs.length = fs.size ∧ ∀ (j : Nat) (f : Field), fs[j]? = some f → ∃ (c : Value) (y : DataW H × List MemPlace) (n : Nat), cs[j]? = some c ∧ DataW.trod enc P w base spare held n f.type [c] = some y := by
  obtain ⟨cs, rfl, hsz⟩ := okWide_struct hs hv
  obtain ⟨fuel, hf⟩ := h
  obtain ⟨hl, hg⟩ := fields_of hs hone hC hf
  refine ⟨cs.toList, by simp, ?_, fun j f hj => ?_⟩
  · simpa [Value.cells] using hl
  · obtain ⟨c, y, n, hc, ht⟩ := hg j f hj
    exact ⟨c, y, n, by simpa [Value.cells] using hc, ht⟩
end
end Go.Proofs.YtlabmboedjnpmaaGreatDoor
/-! Data -/
namespace Go.Proofs.YtlabmboedjnpmaaGreatDoor
open Go.RowKit
set_option linter.unusedVariables false

structure PTok where
  kind : Int
  text : ByteArray
  at_ : Int
structure PNode where
  kind : Int
  op : Int
  text : ByteArray
  other : ByteArray
  kids : List Int
structure PPos where
  level : Int
  dollar : Bool
  noIn : Bool
  noGt : Bool
  noSign : Bool

def okInt (x : Int) : Prop := -9223372036854775808 ≤ x ∧ x ≤ 9223372036854775807
theorem okInt_of {a : Int} (h : (Lit.int .i64 a).wf = true) : okInt a := by
  simpa [okInt, Lit.wf, IntKind.min, IntKind.max, IntKind.signed, IntKind.bits] using h

/-- a slice of ints that lies below block B -/
def IntsIn (w : World) (B : Nat) (v : Value) (l : List Int) : Prop :=
  ∃ A c, v = .slice A l.length c ∧ l.length ≤ c ∧ c ≤ maxLen ∧
    (0 < l.length → ∃ b off, A = some ⟨b, off, none⟩ ∧ b < B ∧ ∀ i x, l[i]? = some x → w.cell? ⟨b, off + i, none⟩ = some (.int .i64 x)) ∧
    ∀ x ∈ l, okInt x
/-- a slice of tokens that lies below block B -/
def ToksIn (w : World) (B : Nat) (v : Value) (l : List PTok) : Prop :=
  ∃ A c, v = .slice A l.length c ∧ l.length ≤ c ∧ c ≤ maxLen ∧
    (0 < l.length → ∃ b off, A = some ⟨b, off, none⟩ ∧ b < B ∧ ∀ i t, l[i]? = some t → w.cell? ⟨b, off + i * 3, none⟩ = some (.int .i64 t.kind) ∧ w.cell? ⟨b, off + i * 3 + 1, none⟩ = some (.string t.text) ∧ w.cell? ⟨b, off + i * 3 + 2, none⟩ = some (.int .i64 t.at_)) ∧
    ∀ t ∈ l, okInt t.kind ∧ t.text.size ≤ maxLen ∧ okInt t.at_
/-- a slice of nodes that lies below block B, and so do its kids -/
def NodesIn (w : World) (B : Nat) (v : Value) (l : List PNode) : Prop :=
  ∃ A c, v = .slice A l.length c ∧ l.length ≤ c ∧ c ≤ maxLen ∧
    (0 < l.length → ∃ b off, A = some ⟨b, off, none⟩ ∧ b < B ∧ ∀ i nd, l[i]? = some nd → ∃ kv, w.cell? ⟨b, off + i * 5, none⟩ = some (.int .i64 nd.kind) ∧ w.cell? ⟨b, off + i * 5 + 1, none⟩ = some (.int .i64 nd.op) ∧
      w.cell? ⟨b, off + i * 5 + 2, none⟩ = some (.string nd.text) ∧ w.cell? ⟨b, off + i * 5 + 3, none⟩ = some (.string nd.other) ∧ w.cell? ⟨b, off + i * 5 + 4, none⟩ = some kv ∧ IntsIn w B kv nd.kids) ∧
    ∀ nd ∈ l, okInt nd.kind ∧ okInt nd.op ∧ nd.text.size ≤ maxLen ∧ nd.other.size ≤ maxLen
/-- a token by value -/
def TokIs (v : Value) (t : PTok) : Prop := v = .agg #[.int .i64 t.kind, .string t.text, .int .i64 t.at_] ∧ okInt t.kind ∧ t.text.size ≤ maxLen ∧ okInt t.at_
/-- a node by value -/
def NodeIs (w : World) (B : Nat) (v : Value) (nd : PNode) : Prop :=
  ∃ kv, v = .agg #[.int .i64 nd.kind, .int .i64 nd.op, .string nd.text, .string nd.other, kv] ∧ IntsIn w B kv nd.kids ∧ okInt nd.kind ∧ okInt nd.op ∧ nd.text.size ≤ maxLen ∧ nd.other.size ≤ maxLen
/-- a position by value -/
def PosIs (v : Value) (p : PPos) : Prop := v = .agg #[.int .i64 p.level, .bool p.dollar, .bool p.noIn, .bool p.noGt, .bool p.noSign] ∧ okInt p.level

section
variable {w w' : World} {B B' : Nat} {v : Value}
theorem IntsIn.keep {l : List Int} (h : IntsIn w B v l) (hb : Below B' w w') (hB : B ≤ B') : IntsIn w' B v l := by
  obtain ⟨A, c, hv, h1, h2, h3, h4⟩ := h
  refine ⟨A, c, hv, h1, h2, fun hp => ?_, h4⟩
  obtain ⟨b, off, hA, hlt, hc⟩ := h3 hp
  exact ⟨b, off, hA, hlt, fun i x hx => (hb.cell (p := ⟨b, off + i, none⟩) (by show b < B'; omega)).trans (hc i x hx)⟩
theorem IntsIn.more {l : List Int} (h : IntsIn w B v l) (hB : B ≤ B') : IntsIn w B' v l := by
  obtain ⟨A, c, hv, h1, h2, h3, h4⟩ := h
  refine ⟨A, c, hv, h1, h2, fun hp => ?_, h4⟩
  obtain ⟨b, off, hA, hlt, hc⟩ := h3 hp
  exact ⟨b, off, hA, by omega, hc⟩
theorem ToksIn.keep {l : List PTok} (h : ToksIn w B v l) (hb : Below B' w w') (hB : B ≤ B') : ToksIn w' B v l := by
  obtain ⟨A, c, hv, h1, h2, h3, h4⟩ := h
  refine ⟨A, c, hv, h1, h2, fun hp => ?_, h4⟩
  obtain ⟨b, off, hA, hlt, hc⟩ := h3 hp
  have k : ∀ o, w'.cell? ⟨b, o, none⟩ = w.cell? ⟨b, o, none⟩ := fun o => hb.cell (p := ⟨b, o, none⟩) (by show b < B'; omega)
  exact ⟨b, off, hA, hlt, fun i x hx => by simp only [k]; exact hc i x hx⟩
theorem ToksIn.more {l : List PTok} (h : ToksIn w B v l) (hB : B ≤ B') : ToksIn w B' v l := by
  obtain ⟨A, c, hv, h1, h2, h3, h4⟩ := h
  refine ⟨A, c, hv, h1, h2, fun hp => ?_, h4⟩
  obtain ⟨b, off, hA, hlt, hc⟩ := h3 hp
  exact ⟨b, off, hA, by omega, hc⟩
theorem NodesIn.keep {l : List PNode} (h : NodesIn w B v l) (hb : Below B' w w') (hB : B ≤ B') : NodesIn w' B v l := by
  obtain ⟨A, c, hv, h1, h2, h3, h4⟩ := h
  refine ⟨A, c, hv, h1, h2, fun hp => ?_, h4⟩
  obtain ⟨b, off, hA, hlt, hc⟩ := h3 hp
  have k : ∀ o, w'.cell? ⟨b, o, none⟩ = w.cell? ⟨b, o, none⟩ := fun o => hb.cell (p := ⟨b, o, none⟩) (by show b < B'; omega)
  refine ⟨b, off, hA, hlt, fun i x hx => ?_⟩
  simp only [k]
  obtain ⟨kv, e0, e1, e2, e3, e4, hk⟩ := hc i x hx
  exact ⟨kv, e0, e1, e2, e3, e4, hk.keep hb hB⟩
theorem NodesIn.more {l : List PNode} (h : NodesIn w B v l) (hB : B ≤ B') : NodesIn w B' v l := by
  obtain ⟨A, c, hv, h1, h2, h3, h4⟩ := h
  refine ⟨A, c, hv, h1, h2, fun hp => ?_, h4⟩
  obtain ⟨b, off, hA, hlt, hc⟩ := h3 hp
  refine ⟨b, off, hA, by omega, fun i x hx => ?_⟩
  obtain ⟨kv, e0, e1, e2, e3, e4, hk⟩ := hc i x hx
  exact ⟨kv, e0, e1, e2, e3, e4, hk.more hB⟩
theorem NodeIs.keep {nd : PNode} (h : NodeIs w B v nd) (hb : Below B' w w') (hB : B ≤ B') : NodeIs w' B v nd := by
  obtain ⟨kv, hv, hk, r⟩ := h
  exact ⟨kv, hv, hk.keep hb hB, r⟩
end
theorem IntsIn.nil (w : World) (B : Nat) : IntsIn w B (.slice none 0 0) [] := ⟨none, 0, rfl, Nat.le_refl _, Nat.zero_le _, fun h => absurd h (by simp), fun x hx => by simp at hx⟩

/-- a value that leads, if anywhere, to a block from b on -/
def FromOn (b : Nat) (v : Value) : Prop := ∀ k, v.ownBlock = some k → b ≤ k
theorem IntsIn.store {w : World} {B : Nat} {v : Value} {l : List Int} (h : IntsIn w B v l) {b : Nat} (hv : FromOn b v) {p : Addr} (hp : p.block < b) (u : Value) : IntsIn (w.setCell p u) B v l := by
  obtain ⟨A, c, rfl, h1, h2, h3, h4⟩ := h
  refine ⟨A, c, rfl, h1, h2, fun hpos => ?_, h4⟩
  obtain ⟨b', off, rfl, hlt, hc⟩ := h3 hpos
  have hb : b ≤ b' := hv b' rfl
  exact ⟨b', off, rfl, hlt, fun i x hx => (World.cell?_setCell_other w p ⟨b', off + i, none⟩ u (fun e => by subst e; simp at hp; omega)).trans (hc i x hx)⟩
theorem IntsIn.alloc {w : World} {B : Nat} {v : Value} {l : List Int} (h : IntsIn w B v l) (hB : B ≤ w.heap.size) (o : Obj) : IntsIn (w.alloc o) B v l :=
  h.keep ((Below.refl _ w).alloc (Nat.le_refl _) o) hB
def nodeBulk (nd : PNode) : Nat := nd.text.size + nd.other.size + nd.kids.length
def bulkSum : List PNode → Nat
  | [] => 0
  | nd :: r => nodeBulk nd + bulkSum r
def nodesBulk (l : List PNode) : Nat := l.length + bulkSum l
def tokSum : List PTok → Nat
  | [] => 0
  | t :: r => t.text.size + tokSum r
def toksBulk (l : List PTok) : Nat := l.length + tokSum l
/-- what is left of a number of letters -/
def subB (left : Int) (b : Nat) : Int := if left < b then -1 else left - b
theorem subB_pos {left : Int} {b : Nat} (h : 0 ≤ subB left b) : (b : Int) ≤ left ∧ subB left b = left - b := by
  unfold subB at h ⊢
  by_cases hl : left < b
  · rw [if_pos hl] at h; omega
  · rw [if_neg hl]; omega
theorem bulkSum_append (a b : List PNode) : bulkSum (a ++ b) = bulkSum a + bulkSum b := by
  induction a with
  | nil => simp [bulkSum]
  | cons x a ih => simp only [List.cons_append, bulkSum, ih]; omega
theorem tokSum_append (a b : List PTok) : tokSum (a ++ b) = tokSum a + tokSum b := by
  induction a with
  | nil => simp [tokSum]
  | cons x a ih => simp only [List.cons_append, tokSum, ih]; omega
theorem bulk_mem {l : List PNode} {nd : PNode} (h : nd ∈ l) : nodeBulk nd ≤ bulkSum l := by
  induction l with
  | nil => simp at h
  | cons x l ih =>
    simp only [bulkSum]
    rcases List.mem_cons.1 h with rfl | h
    · omega
    · have := ih h; omega
theorem tok_mem {l : List PTok} {t : PTok} (h : t ∈ l) : t.text.size ≤ tokSum l := by
  induction l with
  | nil => simp at h
  | cons x l ih =>
    simp only [tokSum]
    rcases List.mem_cons.1 h with rfl | h
    · omega
    · have := ih h; omega
theorem bulk_take {l : List PNode} {j : Nat} {nd : PNode} (h : l[j]? = some nd) : bulkSum (l.take (j + 1)) = bulkSum (l.take j) + nodeBulk nd := by
  rw [List.take_add_one, h, bulkSum_append]
  simp [bulkSum]
theorem bulk_take_le (l : List PNode) (j : Nat) : bulkSum (l.take j) ≤ bulkSum l := by
  have := bulkSum_append (l.take j) (l.drop j)
  rw [List.take_append_drop] at this
  omega
theorem tok_take {l : List PTok} {j : Nat} {t : PTok} (h : l[j]? = some t) : tokSum (l.take (j + 1)) = tokSum (l.take j) + t.text.size := by
  rw [List.take_add_one, h, tokSum_append]
  simp [tokSum]
theorem tok_take_le (l : List PTok) (j : Nat) : tokSum (l.take j) ≤ tokSum l := by
  have := tokSum_append (l.take j) (l.drop j)
  rw [List.take_append_drop] at this
  omega
end Go.Proofs.YtlabmboedjnpmaaGreatDoor
/-! DrawPure -/
namespace Go.Proofs.YtlabmboedjnpmaaGreatDoor
open Go.RowKit
set_option linter.unusedVariables false

/-- a slice of bytes that lies below block B -/
def BytesIn (w : World) (B : Nat) (v : Value) (l : List UInt8) : Prop :=
  ∃ A c, v = .slice A l.length c ∧ l.length ≤ c ∧ c ≤ maxLen ∧ (0 < l.length → ∃ b off, A = some ⟨b, off, none⟩ ∧ b < B ∧ ∀ i x, l[i]? = some x → w.cell? ⟨b, off + i, none⟩ = some (.int .u8 (x.toNat : Int)))
theorem BytesIn.more {w : World} {B B' : Nat} {v : Value} {l : List UInt8} (h : BytesIn w B v l) (hB : B ≤ B') : BytesIn w B' v l := by
  obtain ⟨A, c, hv, h1, h2, h3⟩ := h
  refine ⟨A, c, hv, h1, h2, fun hp => ?_⟩
  obtain ⟨b, off, hA, hlt, hc⟩ := h3 hp
  exact ⟨b, off, hA, by omega, hc⟩
theorem BytesIn.keep {w w' : World} {B B' : Nat} {v : Value} {l : List UInt8} (h : BytesIn w B v l) (hb : Below B' w w') (hB : B ≤ B') : BytesIn w' B v l := by
  obtain ⟨A, c, hv, h1, h2, h3⟩ := h
  refine ⟨A, c, hv, h1, h2, fun hp => ?_⟩
  obtain ⟨b, off, hA, hlt, hc⟩ := h3 hp
  exact ⟨b, off, hA, hlt, fun i x hx => (hb.cell (p := ⟨b, off + i, none⟩) (by show b < B'; omega)).trans (hc i x hx)⟩

/-- all but block g is as it was -/
structure Away (g : Nat) (w w' : World) : Prop where
  os : w'.os = w.os
  tape : w'.tape = w.tape
  output : w'.output = w.output
  size : w.heap.size ≤ w'.heap.size
  block : ∀ b, b < w.heap.size → b ≠ g → w'.heap[b]? = w.heap[b]?
theorem Away.refl (g : Nat) (w : World) : Away g w w := ⟨rfl, rfl, rfl, Nat.le_refl _, fun _ _ _ => rfl⟩
theorem Away.trans {g : Nat} {a b c : World} (h : Away g a b) (k : Away g b c) : Away g a c :=
  ⟨k.os.trans h.os, k.tape.trans h.tape, k.output.trans h.output, Nat.le_trans h.size k.size, fun i hi hn => (k.block i (Nat.lt_of_lt_of_le hi h.size) hn).trans (h.block i hi hn)⟩
theorem Away.of_below {g : Nat} {w w' : World} (h : Below w.heap.size w w') : Away g w w' := ⟨h.os, h.tape, h.output, h.size, fun b hb _ => h.block b hb⟩
theorem Away.below {g B : Nat} {w w' : World} (h : Away g w w') (hg : B ≤ g) (hB : B ≤ w.heap.size) : Below B w w' := ⟨h.os, h.tape, h.output, h.size, fun b hb => h.block b (by omega) (by omega)⟩
theorem Away.below_then {g B : Nat} {a w w' : World} (k : Below B a w) (h : Away g w w') (hg : B ≤ g) (hB : B ≤ w.heap.size) : Below B a w' := k.trans (h.below hg hB)
theorem Away.then_below {g : Nat} {a w w' : World} (h : Away g a w) (k : Below a.heap.size w w') : Away g a w' :=
  ⟨k.os.trans h.os, k.tape.trans h.tape, k.output.trans h.output, Nat.le_trans h.size k.size, fun b hb hn => (k.block b hb).trans (h.block b hb hn)⟩
theorem Away.alloc {g : Nat} {w w' : World} (h : Away g w w') (o : Obj) : Away g w (w'.alloc o) := h.trans (Away.of_below ((Below.refl _ _).alloc (Nat.le_refl _) o))
theorem Away.drew {g : Nat} {w w' : World} (h : Away g w w') : Away g w w'.drew := ⟨h.os, h.tape, h.output, h.size, h.block⟩
theorem Away.drewN {g : Nat} {w w' : World} (h : Away g w w') (n : Nat) : Away g w (w'.drewN n) := ⟨h.os, h.tape, h.output, h.size, h.block⟩
theorem Away.setCell {g : Nat} {w w' : World} (h : Away g w w') (o : Nat) (v : Value) : Away g w (w'.setCell ⟨g, o, none⟩ v) :=
  ⟨h.os, h.tape, h.output, by simpa using h.size, fun b hb hn => (Below.heap_setCell w' ⟨g, o, none⟩ v b hn).trans (h.block b hb hn)⟩
theorem Away.cell {g : Nat} {w w' : World} (h : Away g w w') {b : Nat} (hb : b < w.heap.size) (hn : b ≠ g) (o : Nat) : w'.cell? ⟨b, o, none⟩ = w.cell? ⟨b, o, none⟩ := World.cell?_of_block (h.block b hb hn)
theorem Away.has {g : Nat} {w w' : World} (h : Away g w w') {b : Nat} {t : TypeId} {cs : Array Value} (k : Has w b t cs) (hn : b ≠ g) : Has w' b t cs := (h.block b k.lt hn).trans k
theorem Away.frozen {g : Nat} {w w' : World} (h : Away g w w') {b : Nat} (hb : b < w.heap.size) (hn : b ≠ g) (o : Nat) : w'.frozen? ⟨b, o, none⟩ = w.frozen? ⟨b, o, none⟩ := by
  have e := h.block b hb hn
  simp [World.frozen?, e]
theorem BytesIn.away {w w' : World} {g B : Nat} {v : Value} {l : List UInt8} (h : BytesIn w B v l) (ha : Away g w w') (hB : B ≤ g) (hs : B ≤ w.heap.size) : BytesIn w' B v l := h.keep (ha.below hB hs) (Nat.le_refl _)
/-- a row of texts -/
def StrsAt (w : World) (b : Nat) (l : List ByteArray) : Prop := b < w.heap.size ∧ ∀ (i : Nat) (x : ByteArray), l[i]? = some x → w.cell? ⟨b, i, none⟩ = some (.string x)
theorem StrsAt.away {w w' : World} {g b : Nat} {l : List ByteArray} (h : StrsAt w b l) (ha : Away g w w') (hn : b ≠ g) : StrsAt w' b l :=
  ⟨Nat.lt_of_lt_of_le h.1 ha.size, fun i x hx => (ha.cell h.1 hn i).trans (h.2 i x hx)⟩
theorem StrsAt.made (w : World) (l : List ByteArray) (T : TypeId) : StrsAt (w.alloc (.cells (l.map fun x => Value.string x).toArray T)) w.heap.size l := by
  refine ⟨by simp, fun i x hx => ?_⟩
  rw [(Has.made w T _).cell]
  simp [hx]
/-- a row of whole numbers -/
def NumsAt (w : World) (b : Nat) (l : List Int) : Prop := b < w.heap.size ∧ ∀ (i : Nat) (x : Int), l[i]? = some x → w.cell? ⟨b, i, none⟩ = some (.int .i64 x)
theorem NumsAt.away {w w' : World} {g b : Nat} {l : List Int} (h : NumsAt w b l) (ha : Away g w w') (hn : b ≠ g) : NumsAt w' b l :=
  ⟨Nat.lt_of_lt_of_le h.1 ha.size, fun i x hx => (ha.cell h.1 hn i).trans (h.2 i x hx)⟩
theorem NumsAt.made (w : World) (l : List Int) (T : TypeId) : NumsAt (w.alloc (.cells (l.map fun x => Value.int .i64 x).toArray T)) w.heap.size l := by
  refine ⟨by simp, fun i x hx => ?_⟩
  rw [(Has.made w T _).cell]
  simp [hx]

/-- the next number -/
def nextH (h : Int) : Int := wrap64 (wrap64 (h * 6364136223846793005) + 1442695040888963407)
/-- its byte -/
def mixH (h : Int) : Int := bits .and .i64 (bits .xor .i64 (h / 8589934592) (h / 35184372088832)) 255
theorem and255 (x : Int) : 0 ≤ bits .and .i64 x 255 ∧ bits .and .i64 x 255 < 256 := by
  have e : bits .and .i64 x 255 = IntKind.i64.wrap ((BitVec.ofInt 64 x &&& BitVec.ofInt 64 255).toNat : Int) := rfl
  have e2 : (BitVec.ofInt 64 255).toNat = 255 := by decide
  have h : (BitVec.ofInt 64 x &&& BitVec.ofInt 64 255).toNat ≤ 255 := by
    rw [BitVec.toNat_and, e2]
    exact Nat.and_le_right
  rw [e, IntWalk.i64_in _ (by omega)]
  omega
theorem nextH_ok (h : Int) : -9223372036854775808 ≤ nextH h ∧ nextH h ≤ 9223372036854775807 := by
  unfold nextH wrap64
  omega
/-- the place in the code, and the number -/
def stepD (cs : List UInt8) (s : Nat × Int) : Nat × Int := (if s.1 < cs.length then s.1 + 1 else s.1, nextH s.2)
def byteD (cs : List UInt8) (s : Nat × Int) : Int := match cs[s.1]? with
  | some b => bits .and .i64 (mixH (nextH s.2) + (b.toNat : Int)) 255
  | none => mixH (nextH s.2)
theorem byteD_lt (cs : List UInt8) (s : Nat × Int) : 0 ≤ byteD cs s ∧ byteD cs s < 256 := by
  unfold byteD
  split
  · exact and255 _
  · exact and255 _
def belowD (cs : List UInt8) (n : Int) (s : Nat × Int) : Int :=
  if n ≤ 0 then 0 else if n ≤ 256 then byteD cs s % n else
    (byteD cs s * 16777216 + byteD cs (stepD cs s) * 65536 + byteD cs (stepD cs (stepD cs s)) * 256 + byteD cs (stepD cs (stepD cs (stepD cs s)))) % n
def belowS (cs : List UInt8) (n : Int) (s : Nat × Int) : Nat × Int :=
  if n ≤ 0 then s else if n ≤ 256 then stepD cs s else stepD cs (stepD cs (stepD cs (stepD cs s)))
theorem belowD_lt (cs : List UInt8) {n : Int} (h : 0 < n) (s : Nat × Int) : 0 ≤ belowD cs n s ∧ belowD cs n s < n := by
  unfold belowD
  rw [if_neg (by omega)]
  split
  · exact ⟨Int.emod_nonneg _ (by omega), Int.emod_lt_of_pos _ h⟩
  · exact ⟨Int.emod_nonneg _ (by omega), Int.emod_lt_of_pos _ h⟩
end Go.Proofs.YtlabmboedjnpmaaGreatDoor
