/- l6Make of the reference: parts behind each other, and a node over them (walk). -/
import Derived.Test.YtlabmboedjnpmaaOwnP
namespace Go.Proofs.Ytlabmboedjnpmaa
open Go.RowKit
set_option linter.unusedVariables false

def RetMake (w : World) (n : Nat) (e : Ending) (w' : World) : Prop := ∃ v l, e = .returned v ∧ OwnN w' w.heap.size v l ∧ GoodT l ∧ l.length = n ∧ Below w.heap.size w w'
/-- what holds of the nodes so far and of the kids so far -/
structure MakeOk (ps : List (Value × List PNode)) (j : Nat) (q : List (PNode × Value)) (ks : List Int) (kv : Value) : Prop where
  len : q.length = sumLen (ps.take j)
  good : ∀ p ∈ q, GoodN q.length p.1
  many : ks.length = j
  kids : ∀ k ∈ ks, -1 ≤ k ∧ k < (q.length : Int)
  apart : ∀ p ∈ q, Apart p.2 kv
theorem MakeOk.start (ps : List (Value × List PNode)) (kv : Value) : MakeOk ps 0 [] [] kv := ⟨rfl, fun p h => (List.not_mem_nil h).elim, rfl, fun k h => (List.not_mem_nil h).elim, fun p h => (List.not_mem_nil h).elim⟩
/-- behind the part's append -/
structure MakeMid (ps : List (Value × List PNode)) (j : Nat) (q : List (PNode × Value)) (ks : List Int) (kv : Value) : Prop where
  len : q.length = sumLen (ps.take (j + 1))
  good : ∀ p ∈ q, GoodN q.length p.1
  many : ks.length = j
  kids : ∀ k ∈ ks, -1 ≤ k ∧ k < (q.length : Int)
  apart : ∀ p ∈ q, Apart p.2 kv
theorem MakeOk.mid {ps : List (Value × List PNode)} {j : Nat} {q q2 : List (PNode × Value)} {ks : List Int} {kv : Value} {p : Value × List PNode} (h : MakeOk ps j q ks kv) (hp : ps[j]? = some p) (hg : GoodT p.2) (hq2 : q2.map Prod.fst = p.2.map (shiftN q.length)) (hap : ∀ r ∈ q2, Apart r.2 kv) : MakeMid ps j (q ++ q2) ks kv := by
  have hl : q2.length = p.2.length := by
    have := congrArg List.length hq2
    simpa using this
  refine ⟨by rw [List.length_append, hl, sumLen_take hp, h.len], fun r hr => ?_, h.many, fun k hk => ?_, fun r hr => ?_⟩
  · rcases List.mem_append.1 hr with hr | hr
    · exact (h.good r hr).more (by rw [List.length_append]; omega)
    · have h1 : r.1 ∈ q2.map Prod.fst := List.mem_map_of_mem hr
      rw [hq2] at h1
      obtain ⟨nd, hnd, e⟩ := List.mem_map.1 h1
      rw [← e]
      exact (hg nd hnd).shift (by rw [List.length_append, hl]; omega)
  · have := h.kids k hk
    rw [List.length_append]
    omega
  · rcases List.mem_append.1 hr with hr | hr
    · exact h.apart r hr
    · exact hap r hr
theorem MakeMid.next {ps : List (Value × List PNode)} {j : Nat} {q : List (PNode × Value)} {ks : List Int} {kv kv' : Value} (h : MakeMid ps j q ks kv) (hap : ∀ p ∈ q, Apart p.2 kv') : MakeOk ps (j + 1) q (ks ++ [(q.length : Int) - 1]) kv' := by
  refine ⟨h.len, h.good, by rw [List.length_append, h.many]; rfl, fun k hk => ?_, hap⟩
  rcases List.mem_append.1 hk with hk | hk
  · exact h.kids k hk
  · obtain rfl := List.mem_singleton.1 hk
    omega
/-- the whole -/
theorem MakeOk.whole {ps : List (Value × List PNode)} {q : List (PNode × Value)} {ks : List Int} {kv : Value} {k o : Int} {t u : ByteArray} (h : MakeOk ps ps.length q ks kv) (hk : 0 ≤ k ∧ k ≤ 100) (ho : 0 ≤ o ∧ o ≤ 200) (ht : t.size ≤ 16) (hu : u.size ≤ 16) (h2 : k = 12 → ps.length ≤ 2) (h8 : ps.length ≤ 8) :
    GoodT ((q ++ [((⟨k, o, t, u, ks⟩ : PNode), kv)]).map Prod.fst) ∧ ((q ++ [((⟨k, o, t, u, ks⟩ : PNode), kv)]).map Prod.fst).length = sumLen ps + 1 := by
  have hl := h.len
  rw [List.take_length] at hl
  refine ⟨fun nd hnd => ?_, by simp [hl]⟩
  rw [List.length_map, List.length_append]
  rw [List.map_append] at hnd
  rcases List.mem_append.1 hnd with hnd | hnd
  · obtain ⟨p, hp, rfl⟩ := List.mem_map.1 hnd
    exact (h.good p hp).more (Nat.le_add_right _ _)
  · obtain rfl := List.mem_singleton.1 hnd
    exact ⟨hk, ho, ht, hu, fun e => by show ks.length ≤ 2; rw [h.many]; exact h2 e, by show ks.length ≤ 8; rw [h.many]; exact h8, fun x hx => by have := h.kids x hx; simp; omega⟩
theorem make_start (w : World) (k o : Int) (t u : ByteArray) (b : Nat) (hb : w.heap.size = b) :
    Has (((w.alloc (.cells #[.int .i64 k, .int .i64 o, .string t, .string u, .slice (some ⟨b + 1 + 1, 0, none⟩) 0 0] 26)).alloc (.cells #[] 26)).alloc (.cells #[] 3)) b 26 #[.int .i64 k, .int .i64 o, .string t, .string u, .slice (some ⟨b + 1 + 1, 0, none⟩) 0 0] ∧
    Hid (OwnQ (((w.alloc (.cells #[.int .i64 k, .int .i64 o, .string t, .string u, .slice (some ⟨b + 1 + 1, 0, none⟩) 0 0] 26)).alloc (.cells #[] 26)).alloc (.cells #[] 3)) (b + 1) (.slice (some ⟨b + 1, 0, none⟩) 0 0) []) ∧
    Hid (OwnI (((w.alloc (.cells #[.int .i64 k, .int .i64 o, .string t, .string u, .slice (some ⟨b + 1 + 1, 0, none⟩) 0 0] 26)).alloc (.cells #[] 26)).alloc (.cells #[] 3)) (b + 1) (.slice (some ⟨b + 1 + 1, 0, none⟩) 0 0) []) ∧
    Below b w (((w.alloc (.cells #[.int .i64 k, .int .i64 o, .string t, .string u, .slice (some ⟨b + 1 + 1, 0, none⟩) 0 0] 26)).alloc (.cells #[] 26)).alloc (.cells #[] 3)) := by
  subst hb
  refine ⟨((Has.made _ _ _).alloc _).alloc _, ?_, ?_, (((Below.refl _ _).alloc (Nat.le_refl _) _).alloc (by simp) _).alloc (by simp; omega) _⟩
  · have := (OwnQ.start (base := w.heap.size + 1) (w.alloc (.cells #[.int .i64 k, .int .i64 o, .string t, .string u, .slice (some ⟨w.heap.size + 1 + 1, 0, none⟩) 0 0] 26)) (by simp)).alloc (.cells #[] 3)
    simpa [Hid] using this
  · have := OwnI.start (base := w.heap.size + 1) ((w.alloc (.cells #[.int .i64 k, .int .i64 o, .string t, .string u, .slice (some ⟨w.heap.size + 1 + 1, 0, none⟩) 0 0] 26)).alloc (.cells #[] 26)) (by simp)
    simpa [Hid] using this
theorem OwnI.grownN {w w' : World} {base : Nat} {v : Value} {l : List Int} (h : OwnI w base v l) {row : Option Nat} (hg : w.grownBy w' row) (hr : ∀ k, row = some k → ∃ cur, Has w k 26 cur) : OwnI w' base v l :=
  row_keep h fun k hk => hg.block k (h.lt k hk).2 fun e => by
    obtain ⟨_, cur, hh⟩ := row_has h hk
    obtain ⟨cur2, h2⟩ := hr k e.symm
    exact absurd (hh.type_eq h2) (by decide)
/-- a kid has been appended: what holds anew -/
theorem make_round {w wr w2 : World} {b j kc g cap : Nat} {K : Option Addr} {k o y : Int} {t u : ByteArray} {q : List (PNode × Value)} {ks : List Int} {x : Value} (hb : Below b w wr)
    (h6 : Has wr b 26 #[.int .i64 k, .int .i64 o, .string t, .string u, .slice K j kc])
    (hown : OwnI wr (b + 1) (.slice K j kc) ks) (hQ : OwnQ wr (b + 1) x q) (hap : ∀ p ∈ q, Apart p.2 (.slice K j kc))
    (hgrow : (wr.alloc (.cells #[.int .i64 y] 3)).grownBy w2 (Value.slice K j kc).ownBlock) (hat : (Value.slice K j kc).ownBlock = some g ∨ g = (wr.alloc (.cells #[.int .i64 y] 3)).heap.size)
    (hown2 : OwnI w2 (b + 1) (.slice (some ⟨g, 0, none⟩) (j + 1) cap) (ks ++ [y])) :
    Has (w2.setCell ⟨b, 4, none⟩ (.slice (some ⟨g, 0, none⟩) (j + 1) cap)) b 26 #[.int .i64 k, .int .i64 o, .string t, .string u, .slice (some ⟨g, 0, none⟩) (j + 1) cap] ∧
    Hid (OwnI (w2.setCell ⟨b, 4, none⟩ (.slice (some ⟨g, 0, none⟩) (j + 1) cap)) (b + 1) (.slice (some ⟨g, 0, none⟩) (j + 1) cap) (ks ++ [y])) ∧
    Hid (OwnQ (w2.setCell ⟨b, 4, none⟩ (.slice (some ⟨g, 0, none⟩) (j + 1) cap)) (b + 1) x q) ∧ (∀ p ∈ q, Apart p.2 (.slice (some ⟨g, 0, none⟩) (j + 1) cap)) ∧
    Below b w (w2.setCell ⟨b, 4, none⟩ (.slice (some ⟨g, 0, none⟩) (j + 1) cap)) := by
  have hbl := h6.lt
  have hvl : ∀ r, (Value.slice K j kc).ownBlock = some r → b + 1 ≤ r ∧ r < wr.heap.size := fun r hr => hown.lt r hr
  have old : ∀ r, r < wr.heap.size → (Value.slice K j kc).ownBlock ≠ some r → w2.heap[r]? = wr.heap[r]? := fun r h1 h2 =>
    (hgrow.block r (by simp; exact Nat.lt_succ_of_lt h1) (fun e => h2 e.symm)).trans (Below.heap_alloc wr _ r h1)
  have hnb : (Value.slice K j kc).ownBlock ≠ some b := fun e => by have := (hvl _ e).1; omega
  have k6 : Has w2 b 26 #[.int .i64 k, .int .i64 o, .string t, .string u, .slice K j kc] := (old b hbl hnb).trans h6
  have far : ∀ r, r ≠ b → (w2.setCell ⟨b, 4, none⟩ (.slice (some ⟨g, 0, none⟩) (j + 1) cap)).heap[r]? = w2.heap[r]? := fun r hr => Below.heap_setCell w2 ⟨b, 4, none⟩ _ r hr
  refine ⟨by simpa using k6.set 4 (.slice (some ⟨g, 0, none⟩) (j + 1) cap), ?_, ?_, ?_, ?_⟩
  · exact row_keep hown2 fun r hr => far r (fun e => by have := (hown2.lt r hr).1; omega)
  · refine ⟨row_keep hQ.1 fun r hr => ?_, fun p hp => row_keep (hQ.2.1 p hp) fun r hr => ?_, hQ.2.2⟩
    · obtain ⟨hr1, cur, hh⟩ := row_has hQ.1 hr
      exact (far r (by omega)).trans (old r hh.lt fun e => by
        obtain ⟨_, cur2, h2⟩ := row_has hown e
        exact absurd (hh.type_eq h2) (by decide))
    · obtain ⟨hr1, cur, hh⟩ := row_has (hQ.2.1 p hp) hr
      exact (far r (by omega)).trans (old r hh.lt fun e => hap p hp r hr e)
  · intro p hp r hr e
    obtain rfl := Option.some.inj e
    rcases hat with hat | hat
    · exact hap p hp g hr hat
    · have h1 := hQ.kid_upto p hp g hr
      rw [hat] at h1
      simp at h1
      omega
  · refine Below.setCell ?_ (p := ⟨b, 4, none⟩) (Nat.le_refl b) _
    have hA : Below b w (wr.alloc (.cells #[.int .i64 y] 3)) := hb.alloc (Nat.le_of_lt hbl) _
    exact hA.grown hgrow (by simp; exact Nat.le_succ_of_le (Nat.le_of_lt hbl)) fun r hr => by have := (hvl r hr).1; omega
theorem good_small {l : List PNode} (h : GoodT l) (hl : l.length ≤ 1048575) : ∀ nd ∈ l, nd.kids.length ≤ 1048576 ∧ ∀ k ∈ nd.kids, -4294967296 ≤ k ∧ k ≤ 4294967296 := fun nd hn => (h nd hn).small (by omega)
theorem OwnI.below {w w' : World} {B base : Nat} {v : Value} {l : List Int} (h : OwnI w base v l) (hb : Below B w w') (hB : w.heap.size ≤ B) : OwnI w' base v l := row_keep h fun k hk => hb.block k (Nat.lt_of_lt_of_le (h.lt k hk).2 hB)
set_option maxRecDepth 100000 in
set_option maxHeartbeats 4000000 in
theorem d_make (pv : Value) (k o : Int) (t u : ByteArray) (ps : List (Value × List PNode)) (w : World) (hk : 0 ≤ k ∧ k ≤ 100) (ho : 0 ≤ o ∧ o ≤ 200) (ht : t.size ≤ 16) (hu : u.size ≤ 16) (hp : PartsIn w pv ps) (hg : ∀ p ∈ ps, GoodT p.2) (hs : sumLen ps ≤ 10000) (h2 : k = 12 → ps.length ≤ 2) (h8 : ps.length ≤ 8) :
    Calls Try.prog 40 #[.agg #[.int .i64 k, .int .i64 o, .string t, .string u, .slice none 0 0], pv] w (RetMake w (sumLen ps + 1)) := by
  obtain ⟨A, c, rfl, hlc, hcm, hcell, hnod⟩ := hp
  unfold maxLen at hcm
  obtain ⟨n, hn⟩ : ∃ n, ps.length = n := ⟨_, rfl⟩
  rw [hn] at hlc hcell h2 h8 ⊢
  have hnH := Lib.hid hn
  have hgH := Lib.hid hg
  have hnodH := Lib.hid hnod
  clear hn hg hnod
  go_enter Try.func40, Try.ntmps40
  go_wp2_with fail
  go_loopw [5, 6] (fun x i wr => ∃ (j g cap n1 kc : Nat) (K : Option Addr) (q : List (PNode × Value)) (ks : List Int), j ≤ n ∧ x = .slice (some ⟨g, 0, none⟩) n1 cap ∧ i = .int .i64 j ∧ Hid (n1 = q.length) ∧ Hid (MakeOk ps j q ks (.slice K j kc)) ∧ Has wr w.heap.size 26 #[.int .i64 k, .int .i64 o, .string t, .string u, .slice K j kc] ∧
    Hid (OwnQ wr (w.heap.size + 1) (.slice (some ⟨g, 0, none⟩) n1 cap) q) ∧ Hid (OwnI wr (w.heap.size + 1) (.slice K j kc) ks) ∧ Below w.heap.size w wr) (fun _ i _ => (n - (intOf i).toNat))
  case atStart =>
    have hst := make_start w k o t u _ rfl
    exact ⟨0, _, _, 0, 0, some ⟨w.heap.size + 1 + 1, 0, none⟩, [], [], by omega, rfl, by go_num, rfl, MakeOk.start _ _, hst.1, hst.2.1, hst.2.2.1, hst.2.2.2⟩
  case round =>
    obtain ⟨j, g, cap, n1, kc, K, q, ks, hj, rfl, rfl, hn1, hok, h6, hQ, hI, hb⟩ := hrel
    have hn1b : n1 ≤ 10000 := by
      have h1 := hok.out.len
      have h3 := sumLen_take_le ps j
      have h4 := hn1.out
      omega
    by_cases hlt : j < n
    · obtain ⟨p, hp⟩ : ∃ p, ps[j]? = some p := ⟨ps[j]'(by rw [hnH.out]; exact hlt), List.getElem?_eq_getElem _⟩
      obtain ⟨b, off, hA, hlt2, hc⟩ := hcell (by omega)
      subst hA
      have e0 : wr.cell? ⟨b, off + j, none⟩ = some p.1 := (hb.cell (p := ⟨b, off + j, none⟩) hlt2).trans (hc j p hp)
      have hmem := List.mem_of_getElem? hp
      have hN := Lib.hid (((hnodH.out p hmem).keep hb (Nat.le_refl _)).more hb.size)
      have hgp := Lib.hid (hgH.out p hmem)
      have hpl : Hid (p.2.length ≤ 10000) := by
        show _ ≤ _
        have h1 := sumLen_take hp
        have h3 := sumLen_take_le ps (j + 1)
        omega
      have hpH := Lib.hid hp
      have h6H := Lib.hid h6
      clear hp hc hmem h6
      go_wp2_with fail
      refine (d_shift _ _ p.2 _ (by have := hpl.out; omega) hN.out (by omega) (good_small hgp.out (by have := hpl.out; omega))).mono ?_
      rintro e w1 ⟨v2, q2, rfl, hv2, hq2, hQ2, hb1⟩
      obtain ⟨g2, cap2, rfl, hc1, hc2, hg21, hg22, hcells⟩ := hQ2.form hv2
      have hq2l : q2.length = p.2.length := by
        have := congrArg List.length hq2
        simpa using this
      obtain ⟨m2, hm2⟩ : ∃ m2, q2.length = m2 := ⟨_, rfl⟩
      have hm2b : m2 ≤ 10000 := by have := hpl.out; omega
      rw [hm2] at hc1 hQ2 ⊢
      have hmid := Lib.hid (hok.out.mid (q2 := q2) hpH.out hgp.out (by rw [hq2, hn1.out]) fun r hr => (Apart.of (hI.out.lt · · |>.2) (hQ2.kid_from r hr)).symm)
      have hapq := Lib.hid (fun (r : PNode × Value) hr (r2 : PNode × Value) hr2 => Apart.of (hQ.out.kid_upto r hr) (hQ2.kid_from r2 hr2))
      have hQ1 := Lib.hid (hQ.out.below hb1 (Nat.le_refl _))
      have hI1 := Lib.hid (hI.out.below hb1 (Nat.le_refl _))
      have h61 := Lib.hid (h6H.out.below hb1 h6H.out.lt)
      have hs1 := hb1.size
      have hbw := Lib.hid (hb.trans (hb1.mono hb.size))
      have hkids2 := Lib.hid (fun (r : PNode × Value) hr => row_lower (hQ2.2.1 r hr) (show w.heap.size + 1 ≤ wr.heap.size from h6H.out.lt))
      have hp2 := Lib.hid hQ2.2.2
      have hm2H := Lib.hid hm2
      have hcellsH := Lib.hid hcells
      have hb0 := h6H.out.lt
      clear hq2 hQ2 hq2l hm2 hcells hQ hI hb1 hb hv2 hg21 hg22 e0
      go_wp2_with (first
        | (at_builtin; refine app_nodes (by rfl) _ _ (by rfl) (w.heap.size + 1) _ q (by rfl) hQ1.out g2 m2 cap2 q2 (by rfl) hm2H.out hcellsH.out hkids2.out hp2.out hapq.out (by have := hn1.out; omega) (by omega) ?_; intro v' w2 hown' hb2 hgr hnil; obtain ⟨g3, cap3, rfl, _, _, _, _, _⟩ := OwnQ.form hown' (fun e => absurd (hnil.1 e).1 (by simp)); have hI2 := Lib.hid (hI1.out.grownN hgr fun k hk => (row_has hQ1.out.1 hk).2); have h62 := Lib.hid (h61.out.below hb2 (Nat.lt_succ_self _)); have c64 := h62.out.get (i := 4) rfl; have f64 := h62.out.free 4; have hlt62 := h62.out.lt; have hbw2 := Lib.hid (hbw.out.trans (hb2.mono (Nat.le_succ _))); obtain ⟨n3, hn3⟩ : ∃ n3, (q ++ q2).length = n3 := ⟨_, rfl⟩; have hn3b : n3 ≤ 20000 := (by rw [← hn3, List.length_append]; have := hm2H.out; have := hn1.out; omega); rw [hn3] at hown' ⊢; have hown3 := Lib.hid hown'; have hn3H := Lib.hid hn3; clear hown' hgr hnil hb2 hn3)
        | (at_builtin; refine app_int1 (by rfl) _ _ (by rfl) (w.heap.size + 1) _ ks (by rfl) (hI2.out.alloc _) _ 1 ((n3 : Int) - 1) (by rfl) (Has.made _ _ _) (by rw [hmid.out.many]; omega) (by simp; omega) ?_; intro g4 cap4 w4 hown4 hgr4 hat4; rw [hmid.out.many] at hown4 ⊢; have hnext := Lib.hid (make_round hbw2.out h62.out hI2.out hown3.out hmid.out.apart hgr4 hat4 hown4); have k64 : Has w4 w.heap.size _ _ := (hgr4.block _ (by simp; omega) (fun e => by have := (hI2.out.lt _ e.symm).1; omega)).trans ((h62.out.alloc _) : Has _ _ _ _); have c64 := k64.get (i := 4) rfl; have f64 := k64.free 4; clear hown4 hgr4 hat4 k64))
      go_roundw
      case rel =>
        refine ⟨j + 1, g3, cap3, n3, cap4, some ⟨g4, 0, none⟩, q ++ q2, _, by omega, rfl, by go_num, hn3H.out.symm, ?_, hnext.out.1, hnext.out.2.2.1, hnext.out.2.1, hnext.out.2.2.2.2⟩
        have := hmid.out.next hnext.out.2.2.2.1
        rw [hn3H.out] at this
        exact this
      case measure => simp [intOf]; omega
    · obtain rfl : j = n := by omega
      have hw := Lib.hid ((show MakeOk ps ps.length q ks (.slice K j kc) by rw [hnH.out]; exact hok.out).whole hk ho ht hu (by rw [hnH.out]; exact h2) (by rw [hnH.out]; exact h8))
      have c60 := h6.get (i := 0) rfl
      have c61 := h6.get (i := 1) rfl
      have c62 := h6.get (i := 2) rfl
      have c63 := h6.get (i := 3) rfl
      have c64 := h6.get (i := 4) rfl
      have hb0 := h6.lt
      clear h6
      have hkid := Lib.hid (show OwnI wr (w.heap.size + 1) (.slice K j kc) (PNode.mk k o t u ks).kids from hI.out)
      go_wp2_with (at_builtin; refine app_nodes (by rfl) _ _ (by rfl) (w.heap.size + 1) _ q (by rfl) (hQ.out.alloc _) _ 1 1 [(⟨k, o, t, u, ks⟩, .slice K j kc)] (by rfl) rfl (one_newn _ (⟨k, o, t, u, ks⟩, .slice K j kc) _) (fun r hr => by obtain rfl := List.mem_singleton.1 hr; exact hkid.out.alloc _) (List.pairwise_singleton _ _) (fun r hr r2 hr2 => by obtain rfl := List.mem_singleton.1 hr2; exact hok.out.apart r hr) (by have := hn1.out; omega) (by simp; omega) ?_; intro v' w2 hown' hb2 hgr hnil; have hown3 := Lib.hid hown'; clear hown' hgr hnil)
      go_ret
      exact ⟨v', _, rfl, ⟨_, rfl, hown3.out.lower (Nat.le_succ _)⟩, hw.out.1, hw.out.2, (hb.alloc hb.size _).trans (hb2.mono (Nat.le_succ _))⟩
end Go.Proofs.Ytlabmboedjnpmaa
