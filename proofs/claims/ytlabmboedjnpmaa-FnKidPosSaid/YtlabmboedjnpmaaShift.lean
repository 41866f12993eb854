/- l6Shift of the reference: nodes in new memory, their kids so much further on (walk). -/
import Derived.Test.YtlabmboedjnpmaaOwnN
import Derived.Deep.AppendLies
import Derived.Deep.RegionLaw
namespace Go.Proofs.Ytlabmboedjnpmaa
open Go.RowKit
set_option linter.unusedVariables false

def shiftN (d : Int) (nd : PNode) : PNode := { nd with kids := nd.kids.map fun k => k + d }
theorem step_app_int {ops : Array Oper} {o : Oper} {a : Act} {K : Act → World → Prop} {Q : Exit → Act → World → Prop} {E : Prop} {w : World} (hgd : o.guard = none) (s x : Operand)
    (ho : o.op = .call { callee := .builtin .append, args := #[s, x], argTypes := #[24, 24] }) (base : Nat) (v : Value) (j : Nat) (xs : List Value) (hs : a.eval s = v) (hown : w.ownsRow base 3 1 v j xs)
    (g c : Nat) (k : Int) (hx : a.eval x = .slice (some ⟨g, 0, none⟩) 1 c) (hg : Has w g 3 #[.int .i64 k])
    (hj : j ≤ 1048576) (hbase : base ≤ w.heap.size) (H : Nat) (hH : w.heap.size = H)
    (h : ∀ g' cap w', w'.ownsRow base 3 1 (.slice (some ⟨g', 0, none⟩) (j + 1) cap) (j + 1) (xs ++ [.int .i64 k]) → w.grownBy w' v.ownBlock → (v.ownBlock = some g' ∨ g' = H) → g' < w'.heap.size → K (a.put o.dst (.slice (some ⟨g', 0, none⟩) (j + 1) cap)) w') :
    if Region.wanted o (yielded ops a.tmps) = true then Oper.wp Try.prog o a w K Q else E := by
  obtain ⟨i0, hi, hz0, hz1, hz2⟩ := info_parts info_int
  refine step_append_lies w hgd s x 24 ho base 3 i0 _ 1 8 Try.underlying24 hi hz0 hz1 hz2 rfl (by omega) v j xs hs hown ⟨g, 0, none⟩ 1 c _ hx rfl (World.news_of_block hg) (fun y hy => ?_) (by omega) (by unfold maxLen; omega) (by omega) hbase H hH h
  simp at hy
  subst hy
  rfl
theorem grown_far {w w' : World} {row : Option Nat} (hg : w.grownBy w' row) {b : Nat} (h1 : b < w.heap.size) (h2 : some b ≠ row) (o : Nat) : w'.cell? ⟨b, o, none⟩ = w.cell? ⟨b, o, none⟩ := World.cell?_of_block (hg.block b h1 h2)
/-- a kid has been appended: what holds anew -/
theorem shift_round {W0 wr w2 : World} {b cc cv g cap : Nat} {Av : Option Addr} {nd : PNode} {xs : List Value} {y : Int} (hb : Below b W0 wr)
    (h6 : Has wr b 26 #[.int .i64 nd.kind, .int .i64 nd.op, .string nd.text, .string nd.other, .slice Av cc cv])
    (hown : wr.ownsRow (b + 1) 3 1 (.slice Av cc cv) cc xs)
    (hgrow : (wr.alloc (.cells #[.int .i64 y] 3)).grownBy w2 (Value.slice Av cc cv).ownBlock) (hlt2 : g < w2.heap.size)
    (hown2 : w2.ownsRow (b + 1) 3 1 (.slice (some ⟨g, 0, none⟩) (cc + 1) cap) (cc + 1) (xs ++ [.int .i64 y])) :
    Has (w2.setCell ⟨b, 4, none⟩ (.slice (some ⟨g, 0, none⟩) (cc + 1) cap)) b 26 #[.int .i64 nd.kind, .int .i64 nd.op, .string nd.text, .string nd.other, .slice (some ⟨g, 0, none⟩) (cc + 1) cap] ∧
    Hid ((w2.setCell ⟨b, 4, none⟩ (.slice (some ⟨g, 0, none⟩) (cc + 1) cap)).ownsRow (b + 1) 3 1 (.slice (some ⟨g, 0, none⟩) (cc + 1) cap) (cc + 1) (xs ++ [.int .i64 y])) ∧
    Below b W0 (w2.setCell ⟨b, 4, none⟩ (.slice (some ⟨g, 0, none⟩) (cc + 1) cap)) := by
  have hbl := h6.lt
  have hvl : ∀ k, (Value.slice Av cc cv).ownBlock = some k → b + 1 ≤ k ∧ k < wr.heap.size := fun k hk => hown.lt k hk
  have old : ∀ k, k < wr.heap.size → (Value.slice Av cc cv).ownBlock ≠ some k → w2.heap[k]? = wr.heap[k]? := fun k h1 h2 =>
    (hgrow.block k (by simp; exact Nat.lt_succ_of_lt h1) (fun e => h2 e.symm)).trans (Below.heap_alloc wr _ k h1)
  have hnb : (Value.slice Av cc cv).ownBlock ≠ some b := fun e => by have := (hvl _ e).1; omega
  have k6 : Has w2 b 26 #[.int .i64 nd.kind, .int .i64 nd.op, .string nd.text, .string nd.other, .slice Av cc cv] := (old b hbl hnb).trans h6
  have s2 := hgrow.size
  refine ⟨by simpa using k6.set 4 (.slice (some ⟨g, 0, none⟩) (cc + 1) cap), ?_, ?_⟩
  · exact row_keep hown2 fun k hk => Below.heap_setCell w2 ⟨b, 4, none⟩ _ k (fun e => by have := (hown2.lt k hk).1; have e2 : k = b := e; omega)
  · refine Below.setCell ?_ (p := ⟨b, 4, none⟩) (Nat.le_refl b) _
    have hA : Below b W0 (wr.alloc (.cells #[.int .i64 y] 3)) := hb.alloc (Nat.le_of_lt hbl) _
    exact hA.grown hgrow (by simp; exact Nat.le_succ_of_le (Nat.le_of_lt hbl)) fun k hk => by have := (hvl k hk).1; omega
theorem shift_start (W0 : World) (nd : PNode) (b : Nat) (hb : W0.heap.size = b) :
    Has ((W0.alloc (.cells #[.int .i64 nd.kind, .int .i64 nd.op, .string nd.text, .string nd.other, .slice (some ⟨b + 1, 0, none⟩) 0 0] 26)).alloc (.cells #[] 3)) b 26 #[.int .i64 nd.kind, .int .i64 nd.op, .string nd.text, .string nd.other, .slice (some ⟨b + 1, 0, none⟩) 0 0] ∧
    Hid (((W0.alloc (.cells #[.int .i64 nd.kind, .int .i64 nd.op, .string nd.text, .string nd.other, .slice (some ⟨b + 1, 0, none⟩) 0 0] 26)).alloc (.cells #[] 3)).ownsRow (b + 1) 3 1 (.slice (some ⟨b + 1, 0, none⟩) 0 0) 0 []) ∧
    Below b W0 ((W0.alloc (.cells #[.int .i64 nd.kind, .int .i64 nd.op, .string nd.text, .string nd.other, .slice (some ⟨b + 1, 0, none⟩) 0 0] 26)).alloc (.cells #[] 3)) := by
  subst hb
  refine ⟨(Has.made _ _ _).alloc _, ?_, ((Below.refl _ _).alloc (Nat.le_refl _) _).alloc (by simp) _⟩
  have := World.ownsRow_lit (base := W0.heap.size + 1) (e := 3) (size := 1) (W0.alloc (.cells #[.int .i64 nd.kind, .int .i64 nd.op, .string nd.text, .string nd.other, .slice (some ⟨W0.heap.size + 1, 0, none⟩) 0 0] 26)) #[] 0 (by simp) (Nat.zero_le _) rfl
  simpa [Hid] using this
theorem one_newn (w : World) (p : PNode × Value) (e : TypeId) : ∀ j b, (nodeCells [p])[j]? = some b → (w.alloc (.cells #[.int .i64 p.1.kind, .int .i64 p.1.op, .string p.1.text, .string p.1.other, p.2] e)).cell? ⟨w.heap.size, j, none⟩ = some b := by
  intro j b h
  rw [World.cell?_alloc_new]
  match j, h with
  | 0, h => exact h
  | 1, h => exact h
  | 2, h => exact h
  | 3, h => exact h
  | 4, h => exact h
theorem OwnQ.form {w : World} {base : Nat} {v : Value} {q : List (PNode × Value)} (h : OwnQ w base v q) (hv : v ≠ .slice none 0 0) : ∃ g cap, v = .slice (some ⟨g, 0, none⟩) q.length cap ∧ q.length ≤ cap ∧ cap ≤ maxLen ∧ base ≤ g ∧ g < w.heap.size ∧ ∀ i x, (nodeCells q)[i]? = some x → w.cell? ⟨g, i, none⟩ = some x := by
  rcases row_open h.1 with ⟨e, _⟩ | ⟨g, cap, e, hb, hg, q1, q2, hc⟩
  · exact absurd e hv
  · exact ⟨g, cap, e, q1, q2, hb, hg, hc⟩
def RetShift (w : World) (d : Int) (l : List PNode) (e : Ending) (w' : World) : Prop := ∃ v q, e = .returned v ∧ v ≠ .slice none 0 0 ∧ q.map Prod.fst = l.map (shiftN d) ∧ OwnQ w' w.heap.size v q ∧ Below w.heap.size w w'
/-- a node has been appended: what holds anew -/
theorem shift_next {l : List PNode} {q : List (PNode × Value)} {j : Nat} {nd : PNode} {d : Int} {kv : Value} (hq : q.map Prod.fst = (l.take j).map (shiftN d)) (hnd : l[j]? = some nd) :
    (q ++ [(shiftN d nd, kv)]).map Prod.fst = (l.take (j + 1)).map (shiftN d) := by
  rw [List.take_add_one, hnd, List.map_append, List.map_append, hq]
  rfl
set_option maxRecDepth 100000 in
set_option maxHeartbeats 4000000 in
theorem d_shift (v : Value) (d : Int) (l : List PNode) (w : World) (hl : l.length ≤ 1048575) (h : NodesIn w w.heap.size v l) (hd : -4294967296 ≤ d ∧ d ≤ 4294967296) (hk : ∀ nd ∈ l, nd.kids.length ≤ 1048576 ∧ ∀ k ∈ nd.kids, -4294967296 ≤ k ∧ k ≤ 4294967296) :
    Calls Try.prog 52 #[v, .int .i64 d] w (RetShift w d l) := by
  obtain ⟨A, c, rfl, hlc, hcm, hcell, hsz⟩ := h
  unfold maxLen at hcm
  obtain ⟨n, hn⟩ : ∃ n, l.length = n := ⟨_, rfl⟩
  rw [hn] at hl hlc hcell ⊢
  have hnH := Lib.hid hn
  have hkH := Lib.hid hk
  clear hn hk hsz
  go_enter Try.func52, Try.ntmps52
  go_wp2_with fail
  go_loopw [5, 6] (fun x i wr => ∃ (j g cap : Nat) (q : List (PNode × Value)), j ≤ n ∧ x = .slice (some ⟨g, 0, none⟩) j cap ∧ i = .int .i64 j ∧ Hid (q.map Prod.fst = (l.take j).map (shiftN d) ∧ q.length = j) ∧ Hid (OwnQ wr w.heap.size (.slice (some ⟨g, 0, none⟩) j cap) q) ∧ Below w.heap.size w wr) (fun _ i _ => (n - (intOf i).toNat))
  case atStart => exact ⟨0, _, _, [], by omega, rfl, by go_num, ⟨rfl, rfl⟩, OwnQ.start w (Nat.le_refl _), (Below.refl _ _).alloc (Nat.le_refl _) _⟩
  case round =>
    obtain ⟨j, g, cap, q, hj, rfl, rfl, hq, hQ, hb⟩ := hrel
    by_cases hlt : j < n
    · obtain ⟨nd, hnd⟩ : ∃ nd, l[j]? = some nd := ⟨l[j]'(by rw [hnH.out]; exact hlt), List.getElem?_eq_getElem _⟩
      obtain ⟨b, off, hA, hlt2, hc⟩ := hcell (by omega)
      subst hA
      obtain ⟨kv, e0, e1, e2, e3, e4, K, kc, rfl, hk1, hk2, hk3, hk4⟩ := hc j nd hnd
      have hkj := Lib.hid (hkH.out nd (List.mem_of_getElem? hnd))
      obtain ⟨W0, hW0⟩ : ∃ W0, W0 = wr := ⟨_, rfl⟩
      subst hW0
      have hb0 := hb.size
      have hkk : ∀ o, W0.cell? ⟨b, o, none⟩ = w.cell? ⟨b, o, none⟩ := fun o => hb.cell (p := ⟨b, o, none⟩) hlt2
      rw [← hkk] at e0 e1 e2 e3 e4
      clear hkk hk4 hc hcell
      have hndH := Lib.hid hnd
      clear hnd
      obtain ⟨m, hm⟩ : ∃ m, nd.kids.length = m := ⟨_, rfl⟩
      rw [hm] at e4 hk1 hk3
      have hkm : m ≤ 1048576 := by have := hkj.out.1; omega
      have hmH := Lib.hid hm
      clear hm
      unfold maxLen at hk2
      go_wp2_with fail
      go_loopw [8] (fun z wr => ∃ (cc cv : Nat) (Av : Option Addr), cc ≤ m ∧ z = .int .i64 cc ∧ Has wr W0.heap.size 26 #[.int .i64 nd.kind, .int .i64 nd.op, .string nd.text, .string nd.other, .slice Av cc cv] ∧
        Hid (wr.ownsRow (W0.heap.size + 1) 3 1 (.slice Av cc cv) cc ((nd.kids.take cc).map fun k => Value.int .i64 (k + d))) ∧ Below W0.heap.size W0 wr) (fun z _ => (m - (intOf z).toNat))
      case atStart =>
        have hst := shift_start W0 nd _ rfl
        exact ⟨0, 0, some ⟨W0.heap.size + 1, 0, none⟩, by omega, by go_num, hst.1, hst.2.1, hst.2.2⟩
      case round =>
        obtain ⟨cc, cv, Av, hcc, rfl, h6, hown, hbi⟩ := hrel
        have e4' : wr.cell? ⟨b, off + j * 5 + 4, none⟩ = some (.slice K m kc) := (hbi.cell (p := ⟨b, off + j * 5 + 4, none⟩) (Nat.lt_of_lt_of_le hlt2 hb0)).trans e4
        by_cases hkl : cc < m
        · obtain ⟨x, hx⟩ : ∃ x, nd.kids[cc]? = some x := ⟨nd.kids[cc]'(by rw [hmH.out]; exact hkl), List.getElem?_eq_getElem _⟩
          obtain ⟨bk, ok, hK, hbl, hkc⟩ := hk3 (by omega)
          subst hK
          have ex : wr.cell? ⟨bk, ok + cc, none⟩ = some (.int .i64 x) := (hbi.cell (p := ⟨bk, ok + cc, none⟩) (Nat.lt_of_lt_of_le hbl hb0)).trans ((hb.cell (p := ⟨bk, ok + cc, none⟩) hbl).trans (hkc cc x hx))
          have hxb := hkj.out.2 x (List.mem_of_getElem? hx)
          have hks := Lib.hid (show (nd.kids.take (cc + 1)).map (fun k => Value.int .i64 (k + d)) = (nd.kids.take cc).map (fun k => Value.int .i64 (k + d)) ++ [.int .i64 (x + d)] by rw [List.take_add_one, hx, List.map_append]; rfl)
          have c64 := h6.get (i := 4) rfl
          have f64 := h6.free 4
          have hbl6 := h6.lt
          have h6H := Lib.hid h6
          have hw1 : IntKind.i64.wrap (x + d) = x + d := IntWalk.i64_in _ (by omega)
          clear hx hkc hk3 h6 e0 e1 e2 e3 e4
          go_wp2_with fail
          go_region_law (refine step_app_int (by rfl) _ _ (by rfl) (W0.heap.size + 1) (.slice Av cc cv) cc ((nd.kids.take cc).map fun k => Value.int .i64 (k + d)) (by rfl) ((show (wr.drewN 1).ownsRow (W0.heap.size + 1) 3 1 (.slice Av cc cv) cc _ from hown.out).alloc _) (wr.drewN 1).heap.size 1 (x + d) (by rfl) (Has.made _ _ _) (by omega) (by have : (wr.drewN 1).heap.size = wr.heap.size := rfl; simp; omega) (wr.heap.size + 1) (by simp) ?_; intro g2 cap2 w2 hown2 hgrow hat hlt3; have hkeep3 : w2.cell? ⟨W0.heap.size, 4, none⟩ = some (.slice Av cc cv) := (grown_far hgrow (by have : (wr.drewN 1).heap.size = wr.heap.size := rfl; simp; omega) (fun e => by have := (hown.out.lt (W0.heap.size) e.symm).1; omega) 4).trans (((h6H.out.drewN 1).alloc _).get (i := 4) rfl); have hfr3 : w2.frozen? ⟨W0.heap.size, 4, none⟩ = false := (World.grownBy.frozen_far hgrow ⟨W0.heap.size, 4, none⟩ (by have : (wr.drewN 1).heap.size = wr.heap.size := rfl; simp; omega) (fun e => by have := (hown.out.lt (W0.heap.size) e.symm).1; omega)).trans (((h6H.out.drewN 1).alloc _).free 4); have hatH := Lib.hid hat; have hown2H := Lib.hid hown2; have hgrowH := Lib.hid hgrow; clear hat hown2 hgrow)
          all_goals
            have hnext := Lib.hid (shift_round hbi h6H.out hown.out ⟨hgrowH.out.os, hgrowH.out.tape, hgrowH.out.output, hgrowH.out.size, hgrowH.out.block⟩ hlt3 hown2H.out)
            rw [← hks.out] at hnext
            clear hgrowH hown2H hatH hkeep3 hfr3 hown hbi
            go_wp2_with fail
            go_roundw
            case rel => exact ⟨cc + 1, cap2, some ⟨g2, 0, none⟩, by omega, by go_num, hnext.out⟩
            case measure => simp [intOf]; omega
        · obtain rfl : cc = m := by omega
          have hQr := Lib.hid (hQ.out.below hbi (Nat.le_refl _))
          have hkid : OwnI wr W0.heap.size (.slice Av cc cv) (shiftN d nd).kids := by
            have h1 := hown.out
            have e1 : nd.kids.take cc = nd.kids := List.take_of_length_le (by rw [hmH.out]; exact Nat.le_refl _)
            rw [e1] at h1
            have e2 : (shiftN d nd).kids.length = cc := by show (nd.kids.map _).length = cc; rw [List.length_map]; exact hmH.out
            have e3 : ((shiftN d nd).kids.map fun b => Value.int .i64 b) = nd.kids.map fun k => Value.int .i64 (k + d) := by
              show (nd.kids.map _).map _ = _
              rw [List.map_map]
              rfl
            unfold OwnI
            rw [e2, e3]
            exact row_lower h1 (Nat.le_succ _)
          have hap : ∀ p ∈ q, ∀ r ∈ [((shiftN d nd), Value.slice Av cc cv)], Apart p.2 r.2 := fun p hp r hr => by
            obtain rfl := List.mem_singleton.1 hr
            exact Apart.of (hQ.out.kid_upto p hp) (fun k hk => by have := (hown.out.lt k hk).1; omega)
          have hap := Lib.hid hap
          have hkid := Lib.hid hkid
          have hqn := Lib.hid (shift_next (kv := .slice Av cc cv) (d := d) hq.out.1 hndH.out)
          have hql := Lib.hid hq.out.2
          have c60 := h6.get (i := 0) rfl
          have c61 := h6.get (i := 1) rfl
          have c62 := h6.get (i := 2) rfl
          have c63 := h6.get (i := 3) rfl
          have c64 := h6.get (i := 4) rfl
          have hbl6 := h6.lt
          have hbw := Lib.hid (hb.trans (hbi.mono hb0))
          clear h6 e0 e1 e2 e3 e4 hown hbi
          go_wp2_with (at_builtin; refine app_nodes (by rfl) _ _ (by rfl) w.heap.size _ q (by rfl) (hQr.out.alloc _) _ 1 1 [(shiftN d nd, .slice Av cc cv)] (by rfl) rfl (one_newn _ (shiftN d nd, .slice Av cc cv) _) (fun p hp => by obtain rfl := List.mem_singleton.1 hp; exact (row_lower hkid.out hb0).alloc _) (List.pairwise_singleton _ _) hap.out (by rw [hql.out]; omega) (by have := hbw.out.size; simp; omega) ?_; intro v' w' hown' hb' hgr hnil; obtain ⟨g3, cap3, rfl, _, _, _, _, _⟩ := OwnQ.form hown' (fun e => absurd (hnil.1 e).1 (by simp)); have hown3 := Lib.hid hown'; clear hown' hgr hnil; rw [List.length_append, hql.out, show [(shiftN d nd, Value.slice Av cc cv)].length = 1 from rfl] at hown3 ⊢)
          go_roundw
          case rel => exact ⟨j + 1, g3, cap3, _, by omega, rfl, by go_num, ⟨hqn.out, by rw [List.length_append, hql.out]; rfl⟩, hown3, (hbw.out.alloc hbw.out.size _).trans hb'⟩
          case measure => simp [intOf]; omega
    · obtain rfl : j = n := by omega
      have hfin : Hid (q.map Prod.fst = l.map (shiftN d)) := by
        show _ = _
        rw [hq.out.1, List.take_of_length_le (by rw [hnH.out]; exact Nat.le_refl _)]
      go_wp2_with fail
      go_ret
      exact ⟨_, q, rfl, (fun e => by cases e), hfin.out, hQ.out, hb⟩
end Go.Proofs.Ytlabmboedjnpmaa
