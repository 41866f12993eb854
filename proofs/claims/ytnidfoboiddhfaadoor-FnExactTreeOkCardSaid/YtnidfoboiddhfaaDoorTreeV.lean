/- Trees whose nodes have their kids in themselves, as they lie in memory. No program is in sight here. -/
import Derived.Test.YtnidfoboiddhfaaDoorDepthPure
namespace Go.Proofs.YtnidfoboiddhfaaDoor
open Go.RowKit
set_option linter.unusedVariables false

/-- a slice of trees: the subtrees of some nodes; S: the blocks in which they lie -/
def KidsV (l : List PNode) (S : Nat → Prop) (w : World) : Nat → List Int → Value → Prop
  | 0, _, _ => False
  | f + 1, ks, v => ∃ A c, v = .slice A ks.length c ∧ ks.length ≤ c ∧ c ≤ maxLen ∧ (0 < ks.length → ∃ b off, A = some ⟨b, off, none⟩ ∧ S b ∧
      ∀ (j : Nat) (k : Int), ks[j]? = some k → ∃ nd kv, l[k.toNat]? = some nd ∧ w.cell? ⟨b, off + j * 5, none⟩ = some (.int .i64 nd.kind) ∧ w.cell? ⟨b, off + j * 5 + 1, none⟩ = some (.int .i64 nd.op) ∧
        w.cell? ⟨b, off + j * 5 + 2, none⟩ = some (.string nd.text) ∧ w.cell? ⟨b, off + j * 5 + 3, none⟩ = some (.string nd.other) ∧ w.cell? ⟨b, off + j * 5 + 4, none⟩ = some kv ∧ KidsV l S w f nd.kids kv)
theorem KidsV.same {l : List PNode} {S S' : Nat → Prop} {w w' : World} (hS : ∀ b, S b → S' b) (hc : ∀ b, S b → ∀ o, w'.cell? ⟨b, o, none⟩ = w.cell? ⟨b, o, none⟩) : ∀ {f : Nat} {ks : List Int} {v : Value}, KidsV l S w f ks v → KidsV l S' w' f ks v
  | 0, _, _, h => h
  | f + 1, ks, v, ⟨A, c, h1, h2, h3, h4⟩ => ⟨A, c, h1, h2, h3, fun hp => by
      obtain ⟨b, off, hA, hb, hk⟩ := h4 hp
      refine ⟨b, off, hA, hS b hb, fun j k hj => ?_⟩
      obtain ⟨nd, kv, e, e0, e1, e2, e3, e4, h⟩ := hk j k hj
      simp only [hc b hb]
      exact ⟨nd, kv, e, e0, e1, e2, e3, e4, KidsV.same hS hc h⟩⟩
theorem KidsV.below {l : List PNode} {S S' : Nat → Prop} {w w' : World} {B : Nat} (hb : Below B w w') (hS : ∀ b, S b → S' b) (hB : ∀ b, S b → b < B) {f : Nat} {ks : List Int} {v : Value} (h : KidsV l S w f ks v) : KidsV l S' w' f ks v :=
  h.same hS fun b hs o => hb.cell (p := ⟨b, o, none⟩) (hB b hs)
theorem KidsV.grown {l : List PNode} {S S' : Nat → Prop} {w w' : World} {row : Option Nat} (hg : w.grownBy w' row) (hS : ∀ b, S b → S' b) (hB : ∀ b, S b → b < w.heap.size ∧ some b ≠ row) {f : Nat} {ks : List Int} {v : Value} (h : KidsV l S w f ks v) : KidsV l S' w' f ks v :=
  h.same hS fun b hs o => by
    obtain ⟨h1, h2⟩ := hB b hs
    have := hg.block b h1 h2
    simp [World.cell?, this]
/-- the cells of a row of trees -/
def TreeRow (l : List PNode) (S : Nat → Prop) (w : World) (f : Nat) (ks : List Int) (xs : List Value) : Prop :=
  xs.length = ks.length * 5 ∧ ∀ (j : Nat) (k : Int), ks[j]? = some k → ∃ nd kv, l[k.toNat]? = some nd ∧ xs[j * 5]? = some (.int .i64 nd.kind) ∧ xs[j * 5 + 1]? = some (.int .i64 nd.op) ∧
    xs[j * 5 + 2]? = some (.string nd.text) ∧ xs[j * 5 + 3]? = some (.string nd.other) ∧ xs[j * 5 + 4]? = some kv ∧ KidsV l S w f nd.kids kv
theorem TreeRow.nil (l : List PNode) (S : Nat → Prop) (w : World) (f : Nat) : TreeRow l S w f [] [] := ⟨rfl, fun j k h => by simp at h⟩
theorem TreeRow.same {l : List PNode} {S S' : Nat → Prop} {w w' : World} (hS : ∀ b, S b → S' b) (hc : ∀ b, S b → ∀ o, w'.cell? ⟨b, o, none⟩ = w.cell? ⟨b, o, none⟩) {f : Nat} {ks : List Int} {xs : List Value} (h : TreeRow l S w f ks xs) : TreeRow l S' w' f ks xs :=
  ⟨h.1, fun j k hj => by
    obtain ⟨nd, kv, e, e0, e1, e2, e3, e4, hk⟩ := h.2 j k hj
    exact ⟨nd, kv, e, e0, e1, e2, e3, e4, hk.same hS hc⟩⟩
theorem TreeRow.below {l : List PNode} {S S' : Nat → Prop} {w w' : World} {B : Nat} (hb : Below B w w') (hS : ∀ b, S b → S' b) (hB : ∀ b, S b → b < B) {f : Nat} {ks : List Int} {xs : List Value} (h : TreeRow l S w f ks xs) : TreeRow l S' w' f ks xs :=
  h.same hS fun b hs o => hb.cell (p := ⟨b, o, none⟩) (hB b hs)
theorem grown_cell {w w' : World} {row : Option Nat} (hg : w.grownBy w' row) {b : Nat} (h1 : b < w.heap.size) (h2 : some b ≠ row) (o : Nat) : w'.cell? ⟨b, o, none⟩ = w.cell? ⟨b, o, none⟩ := by
  have := hg.block b h1 h2
  simp [World.cell?, this]
theorem TreeRow.grown {l : List PNode} {S S' : Nat → Prop} {w w' : World} {row : Option Nat} (hg : w.grownBy w' row) (hS : ∀ b, S b → S' b) (hB : ∀ b, S b → b < w.heap.size ∧ some b ≠ row) {f : Nat} {ks : List Int} {xs : List Value} (h : TreeRow l S w f ks xs) : TreeRow l S' w' f ks xs :=
  h.same hS fun b hs o => grown_cell hg (hB b hs).1 (hB b hs).2 o
theorem TreeRow.snoc {l : List PNode} {S : Nat → Prop} {w : World} {f : Nat} {ks : List Int} {xs : List Value} (h : TreeRow l S w f ks xs) {k : Int} {nd : PNode} {kv : Value} (hn : l[k.toNat]? = some nd) (hk : KidsV l S w f nd.kids kv) :
    TreeRow l S w f (ks ++ [k]) (xs ++ [.int .i64 nd.kind, .int .i64 nd.op, .string nd.text, .string nd.other, kv]) := by
  have hl := h.1
  refine ⟨by simp [hl]; omega, fun j x hj => ?_⟩
  by_cases hlt : j < ks.length
  · rw [List.getElem?_append_left hlt] at hj
    obtain ⟨nd', kv', e, e0, e1, e2, e3, e4, hk'⟩ := h.2 j x hj
    refine ⟨nd', kv', e, ?_, ?_, ?_, ?_, ?_, hk'⟩
    · rw [List.getElem?_append_left (by omega)]; exact e0
    · rw [List.getElem?_append_left (by omega)]; exact e1
    · rw [List.getElem?_append_left (by omega)]; exact e2
    · rw [List.getElem?_append_left (by omega)]; exact e3
    · rw [List.getElem?_append_left (by omega)]; exact e4
  · rw [List.getElem?_append_right (by omega)] at hj
    have hj0 : j - ks.length = 0 := by
      by_cases e : j - ks.length = 0
      · exact e
      · rw [List.getElem?_eq_none (by simp; omega)] at hj; cases hj
    rw [hj0] at hj
    obtain rfl : k = x := by simpa using hj
    obtain rfl : j = ks.length := by omega
    refine ⟨nd, kv, hn, ?_, ?_, ?_, ?_, ?_, hk⟩
    · rw [List.getElem?_append_right (by omega), show ks.length * 5 - xs.length = 0 by omega]; rfl
    · rw [List.getElem?_append_right (by omega), show ks.length * 5 + 1 - xs.length = 1 by omega]; rfl
    · rw [List.getElem?_append_right (by omega), show ks.length * 5 + 2 - xs.length = 2 by omega]; rfl
    · rw [List.getElem?_append_right (by omega), show ks.length * 5 + 3 - xs.length = 3 by omega]; rfl
    · rw [List.getElem?_append_right (by omega), show ks.length * 5 + 4 - xs.length = 4 by omega]; rfl
/-- out of a row that the call owns -/
theorem KidsV.of_row {l : List PNode} {S S' : Nat → Prop} {w : World} {f : Nat} {ks : List Int} {xs : List Value} {base e : Nat} {v : Value} (hS : ∀ b, S b → S' b) (hv : ∀ g, v.ownBlock = some g → S' g) (h : TreeRow l S w f ks xs) (hown : w.ownsRow base e 5 v ks.length xs) : KidsV l S' w (f + 1) ks v := by
  obtain ⟨_, h2⟩ := hown
  rcases h2 with ⟨rfl, h0⟩ | ⟨g, cap, cur, rfl, hb, hh, q1, q2, hsz, htk⟩
  · exact ⟨none, 0, by rw [h0], by omega, Nat.zero_le _, fun hp => by omega⟩
  · refine ⟨_, cap, rfl, q1, q2, fun hp => ⟨g, 0, rfl, hv g rfl, fun j k hj => ?_⟩⟩
    obtain ⟨nd, kv, e, e0, e1, e2, e3, e4, hk⟩ := h.2 j k hj
    have hjl := (List.getElem?_eq_some_iff.1 hj).1
    have hc : ∀ i u, xs[i]? = some u → w.cell? ⟨g, 0 + i, none⟩ = some u := by
      intro i u hu
      rw [Nat.zero_add, cell_of_row w g i cur _ _ hh]
      have hi := (List.getElem?_eq_some_iff.1 hu).1
      have hl := h.1
      have h3 : (cur.toList.take (ks.length * 5))[i]? = xs[i]? := by rw [htk]
      rw [List.getElem?_take_of_lt (by omega), Array.getElem?_toList, hu] at h3
      exact h3
    simp only [Nat.add_assoc]
    exact ⟨nd, kv, e, hc _ _ e0, hc _ _ e1, hc _ _ e2, hc _ _ e3, hc _ _ e4, hk.same hS fun _ _ _ => rfl⟩
end Go.Proofs.YtnidfoboiddhfaaDoor
