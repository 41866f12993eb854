/- Copies of ints and nodes (contracts). -/
import Derived.Test.YtnidfoboiddhfaaDoorNodeKit
namespace Go.Proofs.YtnidfoboiddhfaaDoor
open Go.RowKit
set_option linter.unusedVariables false

def RetInts (w : World) (l : List Int) (e : Ending) (w' : World) : Prop := ∃ v, e = .returned v ∧ IntsIn w' w'.heap.size v l ∧ FromOn w.heap.size v ∧ Below w.heap.size w w'
theorem info_int : (Tryd.prog.info? 3).map (fun i => (i.zero, i.size, i.bytes)) = some (some (.int .i64 0), 1, 8) := by kernel_rfl
set_option maxRecDepth 100000 in
set_option maxHeartbeats 400000 in
theorem l_toInts (v : Value) (l : List Int) (w : World) (hl : l.length ≤ 1048576) (h : IntsIn w w.heap.size v l) : Calls Tryd.prog 68 #[v] w (RetInts w l) := by
  obtain ⟨A, c, rfl, hlc, hcm, hcell, hok⟩ := h
  obtain ⟨n, hn⟩ : ∃ n, l.length = n := ⟨_, rfl⟩
  rw [hn] at hl hlc hcell ⊢
  have hnH := Lib.hid hn
  clear hn
  obtain ⟨i0, hi, hz0, hz1, hz2⟩ := info_parts info_int
  have hmk := mk_slice (P := Tryd.prog) 56 3 i0 (.int .i64 0) Tryd.underlying56 hi hz0 n (by rw [hz2]; omega) (by omega)
  rw [hz1] at hmk
  clear hi hz0 hz1 hz2
  go_enter Tryd.func68, Tryd.ntmps68
  go_wp2
  clear hmk
  go_loopw [4] (fun i wr => ∃ (j : Nat) (cs : Array Value), j ≤ n ∧ Hid (cs.size = n ∧ ∀ t x, t < j → l[t]? = some x → cs[t]? = some (.int .i64 x)) ∧ i = .int .i64 j ∧ Has wr w.heap.size 3 cs ∧ Below w.heap.size w wr) (fun i _ => (n - (intOf i).toNat))
  case atStart => exact ⟨0, _, by omega, ⟨by simp [size_madeCells], fun t x ht => by omega⟩, by go_num, Has.made _ _ _, (Below.refl _ _).alloc (Nat.le_refl _) _⟩
  case round =>
    obtain ⟨j, cs, hj, hd, rfl, hh, hb⟩ := hrel
    by_cases hlt : j < n
    · obtain ⟨x, hx⟩ : ∃ x, l[j]? = some x := ⟨l[j]'(by rw [hnH.out]; exact hlt), List.getElem?_eq_getElem _⟩
      obtain ⟨b, off, hA, hlt2, hc⟩ := hcell (by omega)
      subst hA
      have e0 := hc j x hx
      rw [← hb.cell (p := ⟨b, off + j, none⟩) hlt2] at e0
      obtain ⟨u, e1⟩ := hh.there (i := j) (by rw [hd.out.1]; exact hlt)
      have e2 := hh.free j
      have hst : Hid ((cs.setIfInBounds j (.int .i64 x)).size = n ∧ ∀ t y, t < j + 1 → l[t]? = some y → (cs.setIfInBounds j (.int .i64 x))[t]? = some (.int .i64 y)) := by
        refine ⟨by simpa using hd.out.1, fun t y ht hy => ?_⟩
        rw [Array.getElem?_setIfInBounds]
        by_cases e : j = t
        · subst e
          rw [if_pos rfl, if_pos (by rw [hd.out.1]; exact hlt)]
          rw [hx] at hy
          rw [Option.some.inj hy]
        · rw [if_neg e]
          exact hd.out.2 t y (by omega) hy
      have hxH := Lib.hid hx
      clear hx hc hcell
      go_wp2
      go_roundw
      case rel => exact ⟨j + 1, _, by omega, hst, by go_num, hh.set j _, hb.setCell (Nat.le_refl _) _⟩
      case measure => simp [intOf]; omega
    · obtain rfl : j = n := by omega
      have hfin : IntsIn wr wr.heap.size (.slice (some ⟨w.heap.size, 0, none⟩) j j) l := by
        refine ⟨_, _, by rw [hnH.out], by rw [hnH.out]; exact Nat.le_refl _, by unfold maxLen; omega, fun hp => ⟨w.heap.size, 0, rfl, hh.lt, fun i x hix => ?_⟩, hok⟩
        rw [Nat.zero_add]
        exact hh.get (hd.out.2 i x (by have := (List.getElem?_eq_some_iff.1 hix).1; have := hnH.out; omega) hix)
      have hfin := Lib.hid hfin
      clear hcell hok
      go_wp2_with fail
      go_ret
      exact ⟨_, rfl, hfin.out, fun k hk => by obtain rfl := Option.some.inj hk; exact Nat.le_refl _, hb⟩

def RetNode (w : World) (nd : PNode) (e : Ending) (w' : World) : Prop := ∃ A c, e = .returned (.agg #[.int .i64 nd.kind, .int .i64 nd.op, .string nd.text, .string nd.other, .slice A nd.kids.length c]) ∧ IntsIn w' w'.heap.size (.slice A nd.kids.length c) nd.kids ∧ FromOn w.heap.size (.slice A nd.kids.length c) ∧ Below w.heap.size w w'
set_option maxRecDepth 100000 in
set_option maxHeartbeats 400000 in
theorem l_toNode (k o : Int) (t u : ByteArray) (A : Option Addr) (n c : Nat) (l : List Int) (w : World) (hl : l.length ≤ 1048576) (h : IntsIn w w.heap.size (.slice A n c) l) :
    Calls Tryd.prog 40 #[.agg #[.int .i64 k, .int .i64 o, .string t, .string u, .slice A n c]] w (RetNode w ⟨k, o, t, u, l⟩) := by
  go_enter Tryd.func40, Tryd.ntmps40
  go_wp2_with fail
  refine (l_toInts _ l _ hl ?hI).mono ?_
  case hI => exact (h.keep (by repeat (first | exact Below.refl _ _ | refine Below.alloc ?_ (by simp; try omega) _)) (Nat.le_refl _)).more (by simp; omega)
  rintro e w1 ⟨v, rfl, hv, hfr, hb1⟩
  have hv2 := Lib.hid hv
  obtain ⟨A', c', rfl, r⟩ := hv
  clear r
  have hz : w.heap.size + 1 + 1 < w1.heap.size := by have := hb1.size; simp at this; omega
  have hc1 : ∀ o, w1.cell? ⟨w.heap.size + 1 + 1, o, none⟩ = _ := fun o => hb1.cell (p := ⟨w.heap.size + 1 + 1, o, none⟩) (by simp)
  have hf1 : ∀ o, w1.frozen? ⟨w.heap.size + 1 + 1, o, none⟩ = _ := fun o => hb1.frozen (p := ⟨w.heap.size + 1 + 1, o, none⟩) (by simp)
  have hc2 : ∀ o, w1.cell? ⟨w.heap.size + 1, o, none⟩ = _ := fun o => hb1.cell (p := ⟨w.heap.size + 1, o, none⟩) (by simp)
  have hf2 : ∀ o, w1.frozen? ⟨w.heap.size + 1, o, none⟩ = _ := fun o => hb1.frozen (p := ⟨w.heap.size + 1, o, none⟩) (by simp)
  go_wp2_with fail
  have kst : ∀ (wx : World) (o : Nat) (vv : Value), IntsIn wx w1.heap.size (.slice A' l.length c') l → IntsIn (wx.setCell ⟨w.heap.size + 1, o, none⟩ vv) w1.heap.size (.slice A' l.length c') l := fun wx o vv hx => hx.store (b := w.heap.size + 1 + 1 + 1) (by simpa using hfr) (by show w.heap.size + 1 < _; omega) vv
  have hfin := kst _ 4 (.slice A' l.length c') (kst _ 3 (.string u) (kst _ 2 (.string t) (kst _ 1 (.int .i64 o) (kst _ 0 (.int .i64 k) (hv2.out.store (b := w.heap.size + 1 + 1 + 1) (by simpa using hfr) (p := ⟨w.heap.size + 1 + 1, 4, none⟩) (by show w.heap.size + 1 + 1 < _; omega) (.slice A' l.length c'))))))
  refine bodyPost_ret (v := .agg #[.int .i64 k, .int .i64 o, .string t, .string u, .slice A' l.length c']) (by simp [results, Tryd.results40, go_sem, hc2]) rfl ⟨A', c', rfl, hfin.more (by simp), fun q hq => ?_, ?_⟩
  · have := hfr q hq
    simp at this
    omega
  · have hb0 : Below w.heap.size w w1 := by
      refine Below.trans ?_ (hb1.mono (by simp; omega))
      repeat (first | exact Below.refl _ _ | refine Below.alloc ?_ (by simp; try omega) _)
    have q : w.heap.size ≤ w.heap.size + 1 := by omega
    exact (((((hb0.setCell (p := ⟨w.heap.size + 1 + 1, 4, none⟩) (by show w.heap.size ≤ w.heap.size + 1 + 1; omega) _).setCell (p := ⟨w.heap.size + 1, 0, none⟩) q _).setCell (p := ⟨w.heap.size + 1, 1, none⟩) q _).setCell (p := ⟨w.heap.size + 1, 2, none⟩) q _).setCell (p := ⟨w.heap.size + 1, 3, none⟩) q _).setCell (p := ⟨w.heap.size + 1, 4, none⟩) q _

/-- the first j nodes stand in the cells -/
def Filled (wr : World) (g : Nat) (cs : Array Value) (j : Nat) (l : List PNode) : Prop :=
  ∀ t nd, t < j → l[t]? = some nd → ∃ kv, cs[t * 5]? = some (.int .i64 nd.kind) ∧ cs[t * 5 + 1]? = some (.int .i64 nd.op) ∧ cs[t * 5 + 2]? = some (.string nd.text) ∧ cs[t * 5 + 3]? = some (.string nd.other) ∧ cs[t * 5 + 4]? = some kv ∧ IntsIn wr wr.heap.size kv nd.kids ∧ FromOn (g + 1) kv
def put5 (cs : Array Value) (m : Nat) (a b c d e : Value) : Array Value := ((((cs.setIfInBounds m a).setIfInBounds (m + 1) b).setIfInBounds (m + 2) c).setIfInBounds (m + 3) d).setIfInBounds (m + 4) e
theorem put5_size (cs : Array Value) (m : Nat) (a b c d e : Value) : (put5 cs m a b c d e).size = cs.size := by simp [put5]
theorem put5_other (cs : Array Value) (m : Nat) (a b c d e : Value) (i : Nat) (h : i < m ∨ m + 4 < i) : (put5 cs m a b c d e)[i]? = cs[i]? := by
  unfold put5
  rw [Array.getElem?_setIfInBounds_ne (by omega), Array.getElem?_setIfInBounds_ne (by omega), Array.getElem?_setIfInBounds_ne (by omega), Array.getElem?_setIfInBounds_ne (by omega), Array.getElem?_setIfInBounds_ne (by omega)]
theorem put5_at (cs : Array Value) (m : Nat) (a b c d e : Value) (h : m + 4 < cs.size) : (put5 cs m a b c d e)[m]? = some a ∧ (put5 cs m a b c d e)[m + 1]? = some b ∧ (put5 cs m a b c d e)[m + 2]? = some c ∧ (put5 cs m a b c d e)[m + 3]? = some d ∧ (put5 cs m a b c d e)[m + 4]? = some e := by
  unfold put5
  refine ⟨?_, ?_, ?_, ?_, ?_⟩
  · rw [Array.getElem?_setIfInBounds_ne (by omega), Array.getElem?_setIfInBounds_ne (by omega), Array.getElem?_setIfInBounds_ne (by omega), Array.getElem?_setIfInBounds_ne (by omega), Array.getElem?_setIfInBounds_self_of_lt (by first | omega | (simp; omega))]
  · rw [Array.getElem?_setIfInBounds_ne (by omega), Array.getElem?_setIfInBounds_ne (by omega), Array.getElem?_setIfInBounds_ne (by omega), Array.getElem?_setIfInBounds_self_of_lt (by first | omega | (simp; omega))]
  · rw [Array.getElem?_setIfInBounds_ne (by omega), Array.getElem?_setIfInBounds_ne (by omega), Array.getElem?_setIfInBounds_self_of_lt (by first | omega | (simp; omega))]
  · rw [Array.getElem?_setIfInBounds_ne (by omega), Array.getElem?_setIfInBounds_self_of_lt (by first | omega | (simp; omega))]
  · rw [Array.getElem?_setIfInBounds_self_of_lt (by first | omega | (simp; omega))]
def set5 (w : World) (g m : Nat) (a b c d e : Value) : World := ((((w.setCell ⟨g, m, none⟩ a).setCell ⟨g, m + 1, none⟩ b).setCell ⟨g, m + 2, none⟩ c).setCell ⟨g, m + 3, none⟩ d).setCell ⟨g, m + 4, none⟩ e
theorem IntsIn.set5 {w : World} {B : Nat} {v : Value} {l : List Int} (h : IntsIn w B v l) {g : Nat} (hv : FromOn (g + 1) v) (m : Nat) (a b c d e : Value) : IntsIn (set5 w g m a b c d e) B v l :=
  ((((h.store hv (Nat.lt_succ_self _) _).store hv (Nat.lt_succ_self _) _).store hv (Nat.lt_succ_self _) _).store hv (Nat.lt_succ_self _) _).store hv (Nat.lt_succ_self _) _
theorem set5_size (w : World) (g m : Nat) (a b c d e : Value) : (set5 w g m a b c d e).heap.size = w.heap.size := by
  unfold Go.Proofs.YtnidfoboiddhfaaDoor.set5
  simp
theorem Has.set5 {w : World} {g : Nat} {t : TypeId} {cs : Array Value} (h : Has w g t cs) (m : Nat) (a b c d e : Value) : Has (Go.Proofs.YtnidfoboiddhfaaDoor.set5 w g m a b c d e) g t (put5 cs m a b c d e) :=
  ((((h.set m a).set (m + 1) b).set (m + 2) c).set (m + 3) d).set (m + 4) e
theorem Filled.step {wr w2 : World} {g : Nat} {cs : Array Value} {j : Nat} {l : List PNode} {nd : PNode} (h : Filled wr g cs j l) (hnd : l[j]? = some nd) (hb : Below wr.heap.size wr w2) (hs : l.length * 5 = cs.size) {kv : Value} (hk : IntsIn w2 w2.heap.size kv nd.kids) (hf : FromOn (g + 1) kv) :
    Filled (set5 w2 g (j * 5) (.int .i64 nd.kind) (.int .i64 nd.op) (.string nd.text) (.string nd.other) kv) g (put5 cs (j * 5) (.int .i64 nd.kind) (.int .i64 nd.op) (.string nd.text) (.string nd.other) kv) (j + 1) l := by
  have hj := (List.getElem?_eq_some_iff.1 hnd).1
  intro t x ht hx
  by_cases e : t = j
  · subst e
    obtain rfl := Option.some.inj (hnd.symm.trans hx)
    obtain ⟨q0, q1, q2, q3, q4⟩ := put5_at cs (t * 5) (.int .i64 nd.kind) (.int .i64 nd.op) (.string nd.text) (.string nd.other) kv (by omega)
    exact ⟨kv, q0, q1, q2, q3, q4, by rw [set5_size]; exact hk.set5 hf _ _ _ _ _ _, hf⟩
  · obtain ⟨kv', e0, e1, e2, e3, e4, hk', hf'⟩ := h t x (by omega) hx
    refine ⟨kv', ?_, ?_, ?_, ?_, ?_, ?_, hf'⟩
    · rw [put5_other _ _ _ _ _ _ _ _ (by omega)]; exact e0
    · rw [put5_other _ _ _ _ _ _ _ _ (by omega)]; exact e1
    · rw [put5_other _ _ _ _ _ _ _ _ (by omega)]; exact e2
    · rw [put5_other _ _ _ _ _ _ _ _ (by omega)]; exact e3
    · rw [put5_other _ _ _ _ _ _ _ _ (by omega)]; exact e4
    · rw [set5_size]
      exact ((hk'.keep hb (Nat.le_refl _)).more hb.size).set5 hf' _ _ _ _ _ _
theorem below_set5 {B : Nat} {w w' : World} (h : Below B w w') {g : Nat} (hg : B ≤ g) (m : Nat) (a b c d e : Value) : Below B w (Go.Proofs.YtnidfoboiddhfaaDoor.set5 w' g m a b c d e) :=
  ((((h.setCell hg _).setCell hg _).setCell hg _).setCell hg _).setCell hg _
theorem info_node : (Tryd.prog.info? 59).map (fun i => (i.zero, i.size, i.bytes)) = some (some (.agg #[.int .i64 0, .int .i64 0, .string ⟨#[]⟩, .string ⟨#[]⟩, .slice none 0 0]), 5, 72) := by kernel_rfl
def RetNodes (w : World) (l : List PNode) (e : Ending) (w' : World) : Prop := ∃ v, e = .returned v ∧ NodesIn w' w'.heap.size v l ∧ FromOn w.heap.size v ∧ Below w.heap.size w w'
set_option maxRecDepth 100000 in
set_option maxHeartbeats 1000000 in
theorem l_toNodes (v : Value) (l : List PNode) (w : World) (hl : nodesBulk l ≤ 1048576) (h : NodesIn w w.heap.size v l) : Calls Tryd.prog 13 #[v] w (RetNodes w l) := by
  obtain ⟨A, c, rfl, hlc, hcm, hcell, hsz⟩ := h
  obtain ⟨n, hn⟩ : ∃ n, l.length = n := ⟨_, rfl⟩
  have hnl : n ≤ 1048576 := by unfold nodesBulk at hl; omega
  have hbH := Lib.hid hl
  clear hl
  rw [hn] at hlc hcell ⊢
  have hnH := Lib.hid hn
  clear hn
  obtain ⟨i0, hi, hz0, hz1, hz2⟩ := info_parts info_node
  have hmk := mk_slice (P := Tryd.prog) 25 59 i0 _ Tryd.underlying25 hi hz0 n (by rw [hz2]; omega) (by omega)
  rw [hz1] at hmk
  clear hi hz0 hz1 hz2
  go_enter Tryd.func13, Tryd.ntmps13
  go_wp2_with fail
  clear hmk
  go_loopw [4] (fun i wr => ∃ (j : Nat) (cs : Array Value), j ≤ n ∧ Hid (cs.size = n * 5 ∧ Filled wr w.heap.size cs j l) ∧ i = .int .i64 j ∧ Has wr w.heap.size 59 cs ∧ Below w.heap.size w wr) (fun i _ => (n - (intOf i).toNat))
  case atStart => exact ⟨0, _, by omega, ⟨by simp [size_madeCells], fun t x ht => by omega⟩, by go_num, Has.made _ _ _, (Below.refl _ _).alloc (Nat.le_refl _) _⟩
  case round =>
    obtain ⟨j, cs, hj, hd, rfl, hh, hb⟩ := hrel
    by_cases hlt : j < n
    · obtain ⟨nd, hnd⟩ : ∃ nd, l[j]? = some nd := ⟨l[j]'(by rw [hnH.out]; exact hlt), List.getElem?_eq_getElem _⟩
      obtain ⟨b, off, hA, hlt2, hc⟩ := hcell (by omega)
      subst hA
      obtain ⟨kv, e0, e1, e2, e3, e4, hK⟩ := hc j nd hnd
      have hK2 := Lib.hid (hK.keep hb (Nat.le_refl _))
      obtain ⟨K, kc, rfl, r⟩ := hK
      clear r
      have hk : ∀ o, wr.cell? ⟨b, o, none⟩ = w.cell? ⟨b, o, none⟩ := fun o => hb.cell (p := ⟨b, o, none⟩) hlt2
      rw [← hk] at e0 e1 e2 e3 e4
      clear hk
      have hkl : Hid (nd.kids.length ≤ 1048576) := by
        have h1 := bulk_mem (List.mem_of_getElem? hnd)
        have h2 := hbH.out
        unfold nodesBulk at h2
        unfold nodeBulk at h1
        show _ ≤ _
        omega
      have hndH := Lib.hid hnd
      clear hnd hc hcell hsz
      go_wp2_with fail
      refine (l_toNode _ _ _ _ _ _ _ nd.kids _ hkl.out (hK2.out.more hb.size)).mono ?_
      rintro e w2 ⟨A', c', rfl, hkids, hfr, hb2⟩
      have hlt2 := Lib.hid hlt2
      have hb3 : Below w.heap.size w w2 := hb.trans (hb2.mono hb.size)
      have hh2 := hh.below hb2 hh.lt
      have hf2 : FromOn (w.heap.size + 1) (.slice A' nd.kids.length c') := fun q hq => Nat.le_trans hh.lt (hfr q hq)
      have hst := Lib.hid (hd.out.2.step hndH.out hb2 (by rw [hnH.out]; exact hd.out.1.symm) hkids hf2)
      obtain ⟨u0, y0⟩ := hh2.there (i := j * 5) (by rw [hd.out.1]; omega)
      obtain ⟨u1, y1⟩ := hh2.there (i := j * 5 + 1) (by rw [hd.out.1]; omega)
      obtain ⟨u2, y2⟩ := hh2.there (i := j * 5 + 2) (by rw [hd.out.1]; omega)
      obtain ⟨u3, y3⟩ := hh2.there (i := j * 5 + 3) (by rw [hd.out.1]; omega)
      obtain ⟨u4, y4⟩ := hh2.there (i := j * 5 + 4) (by rw [hd.out.1]; omega)
      have z0 := hh2.free (j * 5)
      have z1 := hh2.free (j * 5 + 1)
      have z2 := hh2.free (j * 5 + 2)
      have z3 := hh2.free (j * 5 + 3)
      have z4 := hh2.free (j * 5 + 4)
      go_wp2_with fail
      go_roundw
      case rel => exact ⟨j + 1, _, by omega, ⟨by rw [put5_size]; exact hd.out.1, hst.out⟩, by go_num, hh2.set5 _ _ _ _ _ _, below_set5 hb3 (Nat.le_refl _) _ _ _ _ _ _⟩
      case measure => simp [intOf]; omega
    · obtain rfl : j = n := by omega
      have hfin : NodesIn wr wr.heap.size (.slice (some ⟨w.heap.size, 0, none⟩) j j) l := by
        refine ⟨_, _, by rw [hnH.out], by rw [hnH.out]; exact Nat.le_refl _, by unfold maxLen; omega, fun hp => ⟨w.heap.size, 0, rfl, hh.lt, fun i x hix => ?_⟩, hsz⟩
        have hij : i < j := by have := (List.getElem?_eq_some_iff.1 hix).1; have := hnH.out; omega
        obtain ⟨kv, e0, e1, e2, e3, e4, hk, _⟩ := hd.out.2 i x hij hix
        simp only [Nat.zero_add]
        exact ⟨kv, hh.get e0, hh.get e1, hh.get e2, hh.get e3, hh.get e4, hk⟩
      have hfin := Lib.hid hfin
      clear hcell hsz
      go_wp2_with fail
      go_ret
      exact ⟨_, rfl, hfin.out, fun k hk => by obtain rfl := Option.some.inj hk; exact Nat.le_refl _, hb⟩
end Go.Proofs.YtnidfoboiddhfaaDoor
