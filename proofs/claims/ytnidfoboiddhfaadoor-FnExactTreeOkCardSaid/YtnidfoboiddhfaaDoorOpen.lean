/- The arguments of the laws, opened: what came in reads as tokens, nodes, positions. -/
import Derived.Test.YtnidfoboiddhfaaDoorChecked
import Derived.Test.YtnidfoboiddhfaaDoorOpenBase
import Derived.Test.YtnidfoboiddhfaaDoorData
namespace Go.Proofs.YtnidfoboiddhfaaDoor
open Go.RowKit Go.ChangeShapes Go.WideShapes Go.ChangeAt Go.Deep
set_option linter.unusedVariables false

theorem cell_lt {w : World} {a : Addr} {v : Value} (h : w.cell? a = some v) : a.block < w.heap.size := by
  by_cases hlt : a.block < w.heap.size
  · exact hlt
  · have e : w.heap[a.block]? = none := Array.getElem?_eq_none (by omega)
    simp [World.cell?, e] at h
section
variable {H : Type} {enc : TypeId × Value → H} {w : World} {base : Nat} {spare : Nat → Bool} {held : Bool}
set_option maxRecDepth 100000 in
theorem fs_tok : ∃ fs, Tryd.prog.underlying 33 = some (.struct fs) ∧ oneCellFields Tryd.prog fs = true ∧ Tryd.prog.cellsOf 33 = fs.size ∧ fs.toList.map (·.type) = [3, 9, 3] := ⟨_, Tryd.underlying33, by kernel_rfl, by kernel_rfl, by kernel_rfl⟩
theorem tok_cells {cs : List Value} {fs : Array Field} (hty : fs.toList.map (·.type) = [3, 9, 3]) (hl : cs.length = fs.size)
    (hg : ∀ (j : Nat) (f : Field), fs[j]? = some f → ∃ (c : Value) (y : DataW H × List MemPlace) (n : Nat), cs[j]? = some c ∧ DataW.trod enc Tryd.prog w base spare held n f.type [c] = some y) :
    ∃ t : PTok, cs = [.int .i64 t.kind, .string t.text, .int .i64 t.at_] ∧ okInt t.kind ∧ t.text.size ≤ maxLen ∧ okInt t.at_ := by
  obtain ⟨l⟩ := fs
  · obtain ⟨f0, f1, f2, rfl⟩ := list3 (show l.length = 3 by have := congrArg List.length hty; simpa using this)
    simp only [List.map_cons, List.map_nil, List.cons.injEq, and_true] at hty
    obtain ⟨t0, t1, t2⟩ := hty
    obtain ⟨c0, y0, n0, g0, r0⟩ := hg 0 f0 rfl
    obtain ⟨c1, y1, n1, g1, r1⟩ := hg 1 f1 rfl
    obtain ⟨c2, y2, n2, g2, r2⟩ := hg 2 f2 rfl
    rw [t0] at r0
    rw [t1] at r1
    rw [t2] at r2
    obtain ⟨z0, e0, _, k0⟩ := DataW.trod_int Tryd.underlying3 r0
    obtain ⟨z1, e1, _, k1⟩ := DataW.trod_string Tryd.underlying9 r1
    obtain ⟨z2, e2, _, k2⟩ := DataW.trod_int Tryd.underlying3 r2
    simp only [List.cons.injEq, and_true] at e0 e1 e2
    subst e0 e1 e2
    · obtain ⟨d0, d1, d2, rfl⟩ := list3 hl
      simp at g0 g1 g2
      subst g0 g1 g2
      exact ⟨⟨z0, z1, z2⟩, rfl, okInt_of k0, k1, okInt_of k2⟩
set_option maxRecDepth 100000 in
theorem open_token {r : Reach} {b0 : Nat} {v : Value} {d : DataW H} {p : List MemPlace} (hv : Value.okWide Tryd.prog w r b0 33 v) (h : DataW.Trod enc Tryd.prog w base spare held 33 v d p) : ∃ a, TokIs v a := by
  obtain ⟨fs, hs, hone, hC, hty⟩ := fs_tok
  obtain ⟨cs, rfl, hl, hg⟩ := agg_of hs hone hC hv h
  obtain ⟨t, rfl, h1, h2, h3⟩ := tok_cells hty hl hg
  exact ⟨t, rfl, h1, h2, h3⟩
set_option maxRecDepth 100000 in
theorem open_tokens {r : Reach} {b0 : Nat} {v : Value} {d : DataW H} {p : List MemPlace} (hv : Value.okWide Tryd.prog w r b0 39 v) (h : DataW.Trod enc Tryd.prog w base spare held 39 v d p) : ∃ a, ToksIn w w.heap.size v a := by
  obtain ⟨fs, hs, hone, hC, hty⟩ := fs_tok
  obtain ⟨a0, len, cap, rfl⟩ := okWide_slice Tryd.underlying39 hv
  obtain ⟨fuel, hf⟩ := h
  have h3 : Tryd.prog.cellsOf 33 = 3 := by kernel_rfl
  rcases open_slice Tryd.underlying39 hf with ⟨hcs, _⟩ | ⟨x, l, c, m, n, D, Pl, hcs, _, hl, hm, hmm, _, hi⟩
  · simp [Value.cells] at hcs
    obtain ⟨rfl, rfl, rfl⟩ := hcs
    exact ⟨[], none, 0, rfl, Nat.le_refl _, Nat.zero_le _, fun h => absurd h (by simp), fun x hx => by simp at hx⟩
  · simp [Value.cells] at hcs
    obtain ⟨rfl, rfl, rfl⟩ := hcs
    have hlm : len ≤ m := by rw [hmm]; split <;> omega
    have each : ∀ i, i < len → ∃ t : PTok, (∀ j, j < 3 → w.cell? ((x.add (i * 3)).add j) = [Value.int .i64 t.kind, .string t.text, .int .i64 t.at_][j]?) ∧ okInt t.kind ∧ t.text.size ≤ maxLen ∧ okInt t.at_ := by
      intro i him
      obtain ⟨cs', hc, ht⟩ := hi i (by omega)
      obtain ⟨hlen, hg⟩ := fields_of hs hone hC ht
      obtain ⟨t, rfl, q1, q2, q3⟩ := tok_cells hty hlen hg
      rw [h3] at hc
      obtain ⟨_, _, hat⟩ := World.cells?_some hc
      exact ⟨t, hat, q1, q2, q3⟩
    have inh : Inhabited PTok := ⟨⟨0, ByteArray.empty, 0⟩⟩
    obtain ⟨f, hfn⟩ := choose_lt each
    refine ⟨(List.range len).map f, some x, cap, by simp, by simpa using hl, hm, fun hp => ?_, fun t ht => ?_⟩
    · simp at hp
      obtain ⟨b, off, spot⟩ := x
      have h0 := (hfn 0 hp).1 0 (by omega)
      simp [Addr.add] at h0
      have hsp : spot = none := World.cell?_spot h0
      subst hsp
      refine ⟨b, off, rfl, cell_lt h0, fun i t hit => ?_⟩
      have him : i < len := by
        have := (List.getElem?_eq_some_iff.1 hit).1
        simpa using this
      have e : t = f i := by simpa [him] using hit.symm
      subst e
      have hq := (hfn i him).1
      have k : ∀ j, ((⟨b, off, none⟩ : Addr).add (i * 3)).add j = ⟨b, off + i * 3 + j, none⟩ := by
        intro j
        rw [add_add]
        unfold Addr.add
        split <;> simp_all
        omega
      exact ⟨by simpa [k] using hq 0 (by omega), by simpa [k] using hq 1 (by omega), by simpa [k] using hq 2 (by omega)⟩
    · simp at ht
      obtain ⟨i, him, rfl⟩ := ht
      exact (hfn i him).2
theorem ints_of {n : Nat} {cv : Value} {y : DataW H × List MemPlace} (h : DataW.trod enc Tryd.prog w base spare held n 56 [cv] = some y) : ∃ l, IntsIn w w.heap.size cv l := by
  have h1 : Tryd.prog.cellsOf 3 = 1 := by kernel_rfl
  rcases open_slice Tryd.underlying56 h with ⟨hcs, _⟩ | ⟨x, l, c, m, n, D, Pl, hcs, _, hl, hm, hmm, _, hi⟩
  · simp at hcs
    subst hcs
    exact ⟨[], IntsIn.nil _ _⟩
  · simp at hcs
    subst hcs
    have hlm : l ≤ m := by rw [hmm]; split <;> omega
    have each : ∀ i, i < l → ∃ z : Int, w.cell? (x.add i) = some (.int .i64 z) ∧ okInt z := by
      intro i him
      obtain ⟨cs', hc, ht⟩ := hi i (by omega)
      rw [h1, Nat.mul_one] at hc
      obtain ⟨z, rfl, _, hz⟩ := DataW.trod_int Tryd.underlying3 ht
      obtain ⟨_, _, hat⟩ := World.cells?_some hc
      exact ⟨z, by simpa [Addr.add] using hat 0 (by omega), okInt_of hz⟩
    obtain ⟨f, hfn⟩ := choose_lt each
    refine ⟨(List.range l).map f, some x, c, by simp, by simpa using hl, hm, fun hp => ?_, fun t ht => ?_⟩
    · simp at hp
      obtain ⟨b, off, spot⟩ := x
      have h0 := (hfn 0 hp).1
      simp [Addr.add] at h0
      have hsp : spot = none := World.cell?_spot h0
      subst hsp
      refine ⟨b, off, rfl, cell_lt h0, fun i t hit => ?_⟩
      have him : i < l := by
        have := (List.getElem?_eq_some_iff.1 hit).1
        simpa using this
      have e : t = f i := by simpa [him] using hit.symm
      subst e
      have hq := (hfn i him).1
      have k : (⟨b, off, none⟩ : Addr).add i = ⟨b, off + i, none⟩ := by
        unfold Addr.add
        split <;> simp_all
      rwa [k] at hq
    · simp at ht
      obtain ⟨i, him, rfl⟩ := ht
      exact (hfn i him).2
set_option maxRecDepth 100000 in
theorem fs_node : ∃ fs, Tryd.prog.underlying 58 = some (.struct fs) ∧ oneCellFields Tryd.prog fs = true ∧ Tryd.prog.cellsOf 58 = fs.size ∧ fs.toList.map (·.type) = [3, 3, 9, 9, 56] := ⟨_, Tryd.underlying58, by kernel_rfl, by kernel_rfl, by kernel_rfl⟩
theorem node_cells {cs : List Value} {fs : Array Field} (hty : fs.toList.map (·.type) = [3, 3, 9, 9, 56]) (hl : cs.length = fs.size)
    (hg : ∀ (j : Nat) (f : Field), fs[j]? = some f → ∃ (c : Value) (y : DataW H × List MemPlace) (n : Nat), cs[j]? = some c ∧ DataW.trod enc Tryd.prog w base spare held n f.type [c] = some y) :
    ∃ q : PNode × Value, cs = [.int .i64 q.1.kind, .int .i64 q.1.op, .string q.1.text, .string q.1.other, q.2] ∧ IntsIn w w.heap.size q.2 q.1.kids ∧ okInt q.1.kind ∧ okInt q.1.op ∧ q.1.text.size ≤ maxLen ∧ q.1.other.size ≤ maxLen := by
  obtain ⟨l⟩ := fs
  · obtain ⟨f0, f1, f2, f3, f4, rfl⟩ := list5 (show l.length = 5 by have := congrArg List.length hty; simpa using this)
    simp only [List.map_cons, List.map_nil, List.cons.injEq, and_true] at hty
    obtain ⟨t0, t1, t2, t3, t4⟩ := hty
    obtain ⟨c0, y0, n0, g0, r0⟩ := hg 0 f0 rfl
    obtain ⟨c1, y1, n1, g1, r1⟩ := hg 1 f1 rfl
    obtain ⟨c2, y2, n2, g2, r2⟩ := hg 2 f2 rfl
    obtain ⟨c3, y3, n3, g3, r3⟩ := hg 3 f3 rfl
    obtain ⟨c4, y4, n4, g4, r4⟩ := hg 4 f4 rfl
    rw [t0] at r0
    rw [t1] at r1
    rw [t2] at r2
    rw [t3] at r3
    rw [t4] at r4
    obtain ⟨z0, e0, _, k0⟩ := DataW.trod_int Tryd.underlying3 r0
    obtain ⟨z1, e1, _, k1⟩ := DataW.trod_int Tryd.underlying3 r1
    obtain ⟨z2, e2, _, k2⟩ := DataW.trod_string Tryd.underlying9 r2
    obtain ⟨z3, e3, _, k3⟩ := DataW.trod_string Tryd.underlying9 r3
    obtain ⟨z4, e4⟩ := ints_of r4
    simp only [List.cons.injEq, and_true] at e0 e1 e2 e3
    subst e0 e1 e2 e3
    · obtain ⟨d0, d1, d2, d3, d4, rfl⟩ := list5 hl
      simp at g0 g1 g2 g3 g4
      subst g0 g1 g2 g3 g4
      exact ⟨(⟨z0, z1, z2, z3, z4⟩, d4), rfl, e4, okInt_of k0, okInt_of k1, k2, k3⟩
set_option maxRecDepth 100000 in
theorem open_node {r : Reach} {b0 : Nat} {v : Value} {d : DataW H} {p : List MemPlace} (hv : Value.okWide Tryd.prog w r b0 58 v) (h : DataW.Trod enc Tryd.prog w base spare held 58 v d p) : ∃ a, NodeIs w w.heap.size v a := by
  obtain ⟨fs, hs, hone, hC, hty⟩ := fs_node
  obtain ⟨cs, rfl, hl, hg⟩ := agg_of hs hone hC hv h
  obtain ⟨q, rfl, h1, h2⟩ := node_cells hty hl hg
  exact ⟨q.1, q.2, rfl, h1, h2⟩
set_option maxRecDepth 100000 in
theorem open_nodes {r : Reach} {b0 : Nat} {v : Value} {d : DataW H} {p : List MemPlace} (hv : Value.okWide Tryd.prog w r b0 22 v) (h : DataW.Trod enc Tryd.prog w base spare held 22 v d p) : ∃ a, NodesIn w w.heap.size v a := by
  obtain ⟨fs, hs, hone, hC, hty⟩ := fs_node
  obtain ⟨a0, len, cap, rfl⟩ := okWide_slice Tryd.underlying22 hv
  obtain ⟨fuel, hf⟩ := h
  have h5 : Tryd.prog.cellsOf 58 = 5 := by kernel_rfl
  rcases open_slice Tryd.underlying22 hf with ⟨hcs, _⟩ | ⟨x, l, c, m, n, D, Pl, hcs, _, hl, hm, hmm, _, hi⟩
  · simp [Value.cells] at hcs
    obtain ⟨rfl, rfl, rfl⟩ := hcs
    exact ⟨[], none, 0, rfl, Nat.le_refl _, Nat.zero_le _, fun h => absurd h (by simp), fun x hx => by simp at hx⟩
  · simp [Value.cells] at hcs
    obtain ⟨rfl, rfl, rfl⟩ := hcs
    have hlm : len ≤ m := by rw [hmm]; split <;> omega
    have each : ∀ i, i < len → ∃ q : PNode × Value, (∀ j, j < 5 → w.cell? ((x.add (i * 5)).add j) = [Value.int .i64 q.1.kind, .int .i64 q.1.op, .string q.1.text, .string q.1.other, q.2][j]?) ∧ IntsIn w w.heap.size q.2 q.1.kids ∧ okInt q.1.kind ∧ okInt q.1.op ∧ q.1.text.size ≤ maxLen ∧ q.1.other.size ≤ maxLen := by
      intro i him
      obtain ⟨cs', hc, ht⟩ := hi i (by omega)
      obtain ⟨hlen, hg⟩ := fields_of hs hone hC ht
      obtain ⟨q, rfl, hq⟩ := node_cells hty hlen hg
      rw [h5] at hc
      obtain ⟨_, _, hat⟩ := World.cells?_some hc
      exact ⟨q, hat, hq⟩
    have inh : Inhabited (PNode × Value) := ⟨(⟨0, 0, ByteArray.empty, ByteArray.empty, []⟩, .nilIface)⟩
    obtain ⟨f, hfn⟩ := choose_lt each
    refine ⟨(List.range len).map fun i => (f i).1, some x, cap, by simp, by simpa using hl, hm, fun hp => ?_, fun t ht => ?_⟩
    · simp at hp
      obtain ⟨b, off, spot⟩ := x
      have h0 := (hfn 0 hp).1 0 (by omega)
      simp [Addr.add] at h0
      have hsp : spot = none := World.cell?_spot h0
      subst hsp
      refine ⟨b, off, rfl, cell_lt h0, fun i t hit => ?_⟩
      have him : i < len := by
        have := (List.getElem?_eq_some_iff.1 hit).1
        simpa using this
      have e : t = (f i).1 := by simpa [him] using hit.symm
      subst e
      have hq := (hfn i him).1
      have k : ∀ j, ((⟨b, off, none⟩ : Addr).add (i * 5)).add j = ⟨b, off + i * 5 + j, none⟩ := by
        intro j
        rw [add_add]
        unfold Addr.add
        split <;> simp_all
        omega
      exact ⟨(f i).2, by simpa [k] using hq 0 (by omega), by simpa [k] using hq 1 (by omega), by simpa [k] using hq 2 (by omega), by simpa [k] using hq 3 (by omega), by simpa [k] using hq 4 (by omega), (hfn i him).2.1⟩
    · simp at ht
      obtain ⟨i, him, rfl⟩ := ht
      exact (hfn i him).2.2
end
end Go.Proofs.YtnidfoboiddhfaaDoor
