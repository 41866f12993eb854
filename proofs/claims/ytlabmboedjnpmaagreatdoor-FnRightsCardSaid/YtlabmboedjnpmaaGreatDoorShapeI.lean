/- Where the subtrees of a list begin (walks of the program): startsOf. -/
import Derived.Test.YtlabmboedjnpmaaGreatDoorShapeR
import Derived.Test.YtlabmboedjnpmaaGreatDoorBackR
import Derived.RegionTactic
import Derived.ChangeAlike
namespace Go.Proofs.YtlabmboedjnpmaaGreatDoor
open Go.RowKit Go.Shelf
set_option linter.unusedVariables false
attribute [local go_sem] Oper.semAt_some

def RetStartsI (w : World) (l : List PNode) (e : Ending) (w' : World) : Prop := ∃ v, e = .returned (.tuple #[v, .bool (shapeB l)]) ∧ (∀ s, shapeB l = true → startsL l = some s → IntsIn w' w'.heap.size v (castL s)) ∧ FromOn w.heap.size v ∧ Below w.heap.size w w'
def StRel (l : List PNode) (w : World) (n j : Nat) (Ds : List Nat) (wr : World) : Prop :=
  ∃ (done : List Nat) (cs : Array Value), j ≤ n ∧ (startsL l = startsF (l.drop j) done ∧ done.length = j ∧ Low done) ∧ Has wr (w.heap.size + 1 + 1) 3 cs ∧ (cs.size = n ∧ ∀ (t x : Nat), done[t]? = some x → cs[t]? = some (.int .i64 (x : Int))) ∧
    Has wr w.heap.size 28 #[.slice none 0 0] ∧ Has wr (w.heap.size + 1) 4 #[.bool false] ∧ Has wr (w.heap.size + 1 + 1 + 1) 28 #[.slice (some ⟨w.heap.size + 1 + 1, 0, none⟩) n n] ∧
    Below w.heap.size w wr ∧ (Ds.Nodup ∧ ∀ D ∈ Ds, w.heap.size + 4 ≤ D ∧ wr.heap[D]? = some (.deferred (some [])))
theorem StRel.start (l : List PNode) (w : World) (n : Nat) : StRel l w n 0 [] ((((w.alloc (.cells #[.slice none 0 0] 28)).alloc (.cells #[.bool false] 4)).alloc (.cells (madeCells #[.int .i64 0] n) 3)).alloc (.cells #[.slice (some ⟨w.heap.size + 1 + 1, 0, none⟩) n n] 28)) := by
  refine ⟨[], madeCells #[.int .i64 0] n, Nat.zero_le _, ⟨rfl, rfl, Low.nil⟩, ?_, ⟨by simp [size_madeCells], fun t x h => by simp at h⟩, ((((Has.made _ _ _).alloc _).alloc _).alloc _ : Has _ w.heap.size _ _), ?_, ?_, ?_, List.nodup_nil, fun D h => by simp at h⟩
  · have := ((Has.made ((w.alloc (.cells #[.slice none 0 0] 28)).alloc (.cells #[.bool false] 4)) 3 (madeCells #[.int .i64 0] n))).alloc (.cells #[.slice (some ⟨w.heap.size + 1 + 1, 0, none⟩) n n] 28)
    simpa using this
  · have := ((Has.made (w.alloc (.cells #[.slice none 0 0] 28)) 4 #[.bool false]).alloc (.cells (madeCells #[.int .i64 0] n) 3)).alloc (.cells #[.slice (some ⟨w.heap.size + 1 + 1, 0, none⟩) n n] 28)
    simpa using this
  · have := Has.made (((w.alloc (.cells #[.slice none 0 0] 28)).alloc (.cells #[.bool false] 4)).alloc (.cells (madeCells #[.int .i64 0] n) 3)) 28 #[.slice (some ⟨w.heap.size + 1 + 1, 0, none⟩) n n]
    simpa using this
  · repeat (first | exact Below.refl _ _ | refine Below.alloc ?_ (by simp; try omega) _)
theorem Has.grown {W W' : World} {g : Nat} {t : TypeId} {cs : Array Value} {row : Option Nat} (h : Has W g t cs) (hg : W.grownBy W' row) (hne : some g ≠ row) : Has W' g t cs := (hg.block g h.lt hne).trans h
/-- between two rounds of the inner loop -/
def IRel (done : List Nat) (j bA : Nat) (W0 : World) (pre : List (Nat × Int)) (W : World) : Prop := (∃ a : Nat, a ≤ j ∧ Hid (backK done (pre.map Prod.snd) j = some a) ∧ Has W bA 3 #[.int .i64 ((a : Int) - 1)]) ∧ Only (· = bA) W0 W
/-- the inner loop has been left by a return -/
def XRel (done : List Nat) (j bA r2 r3 : Nat) (W0 : World) (c : Code) (pre : List (Nat × Int)) (W : World) : Prop :=
  (c = .ret ∧ Hid (backK done (pre.map Prod.snd) j = none) ∧ Has W r2 28 #[.slice none 0 0] ∧ Has W r3 4 #[.bool false]) ∧ Only (fun k => k = bA ∨ k = r2 ∨ k = r3) W0 W
theorem IRel.own (done : List Nat) (j bA : Nat) (W0 : World) (hb : bA < W0.heap.size) : OwnFrom W0.heap.size (IRel done j bA W0) :=
  OwnFrom.and (fun s W W' row hs hg hr => by
    obtain ⟨a, h1, h2, h3⟩ := hs
    exact ⟨a, h1, h2, h3.grown hg (fun e => by have := (hr bA e.symm).1; omega)⟩) (ownFrom_only _ _)
theorem XRel.own (done : List Nat) (j bA r2 r3 : Nat) (W0 : World) (h2 : r2 < W0.heap.size) (h3 : r3 < W0.heap.size) (c : Code) : OwnFrom W0.heap.size (XRel done j bA r2 r3 W0 c) :=
  OwnFrom.and (fun s W W' row hs hg hr => ⟨hs.1, hs.2.1, hs.2.2.1.grown hg (fun e => by have := (hr r2 e.symm).1; omega), hs.2.2.2.grown hg (fun e => by have := (hr r3 e.symm).1; omega)⟩) (ownFrom_only _ _)
theorem RetStartsI.no {w : World} {l : List PNode} (h : shapeB l = false) (W : World) (hb : Below w.heap.size w W) : RetStartsI w l (.returned (.tuple #[.slice none 0 0, .bool false])) W := by
  unfold RetStartsI
  rw [h]
  exact ⟨_, rfl, (fun s h => by cases h), FromOn.nil _, hb⟩
theorem RetStartsI.yes {w W : World} {l : List PNode} {done : List Nat} {j : Nat} {cs : Array Value} (hs : startsL l = some done) (hlow : Low done) (hl : done.length = j) (hj : j ≤ 400) (hrow : Has W (w.heap.size + 1 + 1) 3 cs)
    (hcs : ∀ (t x : Nat), done[t]? = some x → cs[t]? = some (.int .i64 (x : Int))) (hb : Below w.heap.size w W) : RetStartsI w l (.returned (.tuple #[.slice (some ⟨w.heap.size + 1 + 1, 0, none⟩) j j, .bool (shapeB l)])) W := by
  refine ⟨_, rfl, fun s _ h2 => ?_, FromOn.row (by omega), hb⟩
  rw [hs] at h2
  obtain rfl := Option.some.inj h2
  refine ⟨_, j, by rw [castL_len, hl], by rw [castL_len, hl]; exact Nat.le_refl _, by unfold maxLen; omega, fun _ => ⟨w.heap.size + 1 + 1, 0, rfl, hrow.lt, fun i x hx => ?_⟩, castL_ok hlow (by omega)⟩
  rw [Nat.zero_add]
  obtain ⟨y, hy, rfl⟩ : ∃ y, done[i]? = some y ∧ ((y : Nat) : Int) = x := by
    simp only [castL, List.getElem?_map, Option.map_eq_some_iff] at hx
    exact hx
  exact hrow.get (hcs i y hy)
theorem leaves_start {w W : World} {tm : Array Value} {n : Nat} {v : Value} {x : Bool} {R : Ending → World → Prop} {Ds : List Nat} (hnd : Ds.Nodup) (hmk : ∀ D ∈ Ds, W.heap[D]? = some (.deferred (some []))) (hge : ∀ D ∈ Ds, w.heap.size + 4 ≤ D) (hb : Below w.heap.size w W)
    (h2 : Has W w.heap.size 28 #[v]) (h3 : Has W (w.heap.size + 1) 4 #[.bool x]) (hR : ∀ W', Below w.heap.size w W' → (∀ k, k < w.heap.size + 4 → W'.heap[k]? = W.heap[k]?) → R (.returned (.tuple #[v, .bool x])) W')
    (t2 : tm[2]?.getD undef = .pointer (some ⟨w.heap.size, 0, none⟩)) (t3 : tm[3]?.getD undef = .pointer (some ⟨w.heap.size + 1, 0, none⟩)) : LeavesInM Fence.wide n Tryz.prog Tryz.f38 tm R (Ds.map mark) .returning W := by
  refine leaves_marks Ds W hnd hmk ?_
  have hk : ∀ k, k < w.heap.size + 4 → (shut Ds W).heap[k]? = W.heap[k]? := fun k hk => shut_heap Ds W k (fun hm => by have := hge k hm; omega)
  have k2 : Has (shut Ds W) w.heap.size 28 #[v] := (hk _ (by omega)).trans h2
  have k3 : Has (shut Ds W) (w.heap.size + 1) 4 #[.bool x] := (hk _ (by omega)).trans h3
  have c2 : (shut Ds W).cell? ⟨w.heap.size, 0, none⟩ = some v := k2.get rfl
  have c3 : (shut Ds W).cell? ⟨w.heap.size + 1, 0, none⟩ = some (.bool x) := k3.get rfl
  have hb2 : Below w.heap.size W (shut Ds W) := shut_below Ds W (fun D hD => by have := hge D hD; omega) hb.size
  refine ⟨.tuple #[v, .bool x], ?_, hR _ (hb.trans hb2) hk⟩
  clear hR hk k2 k3 hb2
  simp [results, Tryz.f38, go_sem, c2, c3, t2, t3]
set_option maxRecDepth 100000 in
set_option maxHeartbeats 2000000 in
theorem i_startsOf_yes (A : Option Addr) (n c : Nat) (l : List PNode) (w : World) (h1 : 1 ≤ n) (h4 : n ≤ 400) (hln : l.length = n) (h : NodesIn w w.heap.size (.slice A n c) l) : Calls Tryz.prog 38 #[.slice A n c] w (RetStartsI w l) := by
  have hin : inB (n : Int) 1 400 = true := inB_true.2 ⟨by omega, by omega⟩
  obtain ⟨i0, hi, hz0, hz1, hz2⟩ := info_parts info_int
  have hmk := mk_slice (P := Tryz.prog) 28 3 i0 (.int .i64 0) Tryz.underlying28 hi hz0 n (by rw [hz2]; omega) (by omega)
  rw [hz1] at hmk
  clear hi hz0 hz1 hz2
  have hlnH := Lib.hid hln
  clear hln
  refine callsIn_wide.1 (callsIn_of_wp_marks (n := 3) Tryz.func38 rfl trivial ?_ rfl)
  refine wpIn_wide.2 ?_
  simp only [Tryz.ntmps38, List.size_toArray, List.length_cons, List.length_nil, Nat.reduceAdd, Nat.reduceSub, Array.replicate_succ, Array.replicate_zero, List.push_toArray, List.append_toArray, List.nil_append, List.cons_append]
  go_wp2_with (go_at_call 28; refine (i_within _ _ _ _).mono ?_; rintro e w' ⟨rfl, rfl⟩)
  refine wp_loop (fun a wr => ∃ (Ds : List Nat) (j : Nat) (u5 u6 u7 u20 u21 u22 u23 u24 u25 u26 u27 u28 u43 u44 u45 u46 u47 u48 : Value), StRel l w n j Ds wr ∧ a = ⟨#[.slice A n c, undef, .pointer (some ⟨w.heap.size, 0, none⟩), .pointer (some ⟨w.heap.size + 1, 0, none⟩), .pointer (some ⟨w.heap.size + 1 + 1 + 1, 0, none⟩), u5, u6, u7, undef, undef, .slice A n c, .int .i64 (n : Int), .bool true, .bool false, .slice A n c, .int .i64 (n : Int), .slice (some ⟨w.heap.size + 1 + 1, 0, none⟩) n n, .slice A n c, .int .i64 (n : Int), .int .i64 (j : Int), u20, u21, u22, u23, u24, u25, u26, u27, u28, undef, undef, undef, undef, undef, undef, undef, undef, undef, undef, undef, undef, undef, undef, u43, u44, u45, u46, u47, u48, undef, undef, undef, undef, undef, undef, undef, undef], Ds.map mark⟩) (fun a _ => n - (intOf (a.tmps.getD 19 undef)).toNat) ?_ ?_
  · refine ⟨[], 0, ?_⟩
    (repeat apply Exists.intro)
    refine ⟨?_, rfl⟩
    exact StRel.start l w n
  · intro a wr hinv
    obtain ⟨Ds, j, u5, u6, u7, u20, u21, u22, u23, u24, u25, u26, u27, u28, u43, u44, u45, u46, u47, u48, hrel, rfl⟩ := hinv
    obtain ⟨done, cs, hj, hd, hrow, hcs, hr2, hr3, hbx, hb, hDs⟩ := hrel
    have hdH := Lib.hid hd
    have hcsH := Lib.hid hcs
    have hDsH := Lib.hid hDs
    clear hd hcs hDs
    have hsz : w.heap.size + 4 ≤ wr.heap.size := by have := hbx.lt; omega
    by_cases hlt : j < n
    · obtain ⟨nd, hnd⟩ : ∃ nd, l[j]? = some nd := ⟨l[j]'(by rw [hlnH.out]; exact hlt), List.getElem?_eq_getElem _⟩
      obtain ⟨A', c', e, hlc, hcm, hcell, hszn⟩ := h
      obtain ⟨rfl, hx, rfl⟩ := Value.slice.inj e
      clear e hszn hx
      rw [hlnH.out] at hlc hcell
      obtain ⟨b, off, hA, hlt2, hc⟩ := hcell (by omega)
      subst hA
      obtain ⟨kv, e0, e1, e2, e3, e4, K, kc, rfl, hk1, hk2, hk3, hk4⟩ := hc j nd hnd
      have hk : ∀ o, wr.cell? ⟨b, o, none⟩ = w.cell? ⟨b, o, none⟩ := fun o => hb.cell (p := ⟨b, o, none⟩) hlt2
      rw [← hk] at e0 e1 e2 e3 e4
      unfold maxLen at hcm
      clear hk hk4 hcell hc
      have hdr := Lib.hid (startsF_drop l j nd hnd done)
      have hndH := Lib.hid hnd
      clear hnd
      go_wp2_with (go_at_call 59; refine (back_maker _ _ _ _).mono ?_; rintro e w' ⟨rfl, rfl⟩)
      obtain ⟨W0, hW0⟩ : ∃ W0, ((wr.alloc (.cells #[.int .i64 nd.kind, .int .i64 nd.op, .string nd.text, .string nd.other, .slice K nd.kids.length kc] 30)).alloc (.cells #[.int .i64 ((j : Int) - 1)] 3)).alloc (.cells #[.slice K nd.kids.length kc] 28) = W0 := ⟨_, rfl⟩
      have hs0 : W0.heap.size = wr.heap.size + 3 := by rw [← hW0]; simp
      have hbel : Below wr.heap.size wr W0 := by rw [← hW0]; exact (((Below.refl _ wr).alloc (Nat.le_refl _) _).alloc (by simp) _).alloc (by simp; omega) _
      have hA0 : Has W0 (wr.heap.size + 1) 3 #[.int .i64 ((j : Int) - 1)] := by
        rw [← hW0]
        have := (Has.made (wr.alloc (.cells #[.int .i64 nd.kind, .int .i64 nd.op, .string nd.text, .string nd.other, .slice K nd.kids.length kc] 30)) 3 #[.int .i64 ((j : Int) - 1)]).alloc (.cells #[.slice K nd.kids.length kc] 28)
        simpa using this
      have hB0 : W0.cell? ⟨wr.heap.size + 1 + 1, 0, none⟩ = some (.slice K nd.kids.length kc) := by
        have h1 : Has W0 (wr.heap.size + 1 + 1) 28 #[.slice K nd.kids.length kc] := by
          rw [← hW0]
          have := Has.made ((wr.alloc (.cells #[.int .i64 nd.kind, .int .i64 nd.op, .string nd.text, .string nd.other, .slice K nd.kids.length kc] 30)).alloc (.cells #[.int .i64 ((j : Int) - 1)] 3)) 28 #[.slice K nd.kids.length kc]
          simpa using this
        exact h1.get (i := 0) rfl
      rw [hW0]
      clear hW0
      have hrow0 := hrow.below hbel hrow.lt
      have hr20 := hr2.below hbel hr2.lt
      have hr30 := hr3.below hbel hr3.lt
      have hbx0 := hbx.below hbel hbx.lt
      refine wpIn_wide.1 (wpIn_rangeFunc_ownG (F := Fence.wide) (n := 3) rfl (by omega) (gf := 81) (lb := #[.pointer (some ⟨wr.heap.size + 1 + 1, 0, none⟩)]) rfl trivial (enters_of Tryz.func81 (by kernel_rfl) rfl)
        (back_stops Fence.wide 2 trivial rfl (by omega) (wr.heap.size + 1 + 1) wr.heap.size kc K nd.kids (by unfold maxLen at hk2; omega) hk1 W0 (by omega) (by omega) hB0 (fun hp => by
          obtain ⟨bk, ok, hK, hbl, hkc⟩ := hk3 hp
          exact ⟨bk, ok, hK, by omega, fun i x hx => (hbel.cell (p := ⟨bk, ok + i, none⟩) (by show bk < _; omega)).trans ((hb.cell (p := ⟨bk, ok + i, none⟩) hbl).trans (hkc i x hx))⟩))
        keepB_t (keepB_b (by omega) (by omega)) (Below.refl _ _) (fun _ => rfl)
        (IRel done j (wr.heap.size + 1) W0) (XRel done j (wr.heap.size + 1) w.heap.size (w.heap.size + 1) W0) (IRel.own _ _ _ _ (by omega)) (fun c => XRel.own _ _ _ _ _ _ (by omega) (by omega) c) ⟨⟨j, Nat.le_refl _, rfl, hA0⟩, Only.refl _ _⟩
        (fun x => { tmps := #[.slice (some ⟨b, off, none⟩) n c, undef, .pointer (some ⟨w.heap.size, 0, none⟩), .pointer (some ⟨w.heap.size + 1, 0, none⟩), .pointer (some ⟨w.heap.size + 1 + 1 + 1, 0, none⟩), .int .i64 (j : Int), .pointer (some ⟨wr.heap.size, 0, none⟩), .pointer (some ⟨wr.heap.size + 1, 0, none⟩), undef, .int .i64 x.2, .slice (some ⟨b, off, none⟩) n c, .int .i64 (n : Int), .bool true, .bool false, .slice (some ⟨b, off, none⟩) n c, .int .i64 (n : Int), .slice (some ⟨w.heap.size + 1 + 1, 0, none⟩) n n, .slice (some ⟨b, off, none⟩) n c, .int .i64 (n : Int), .int .i64 (j : Int), .bool true, .int .i64 (j : Int), .pointer (some ⟨b, off + j * 5, none⟩), .agg #[.int .i64 nd.kind, .int .i64 nd.op, .string nd.text, .string nd.other, .slice K nd.kids.length kc], .int .i64 (j : Int), .int .i64 ((j : Int) - 1), .pointer (some ⟨wr.heap.size, 4, none⟩), .slice K nd.kids.length kc, .func (.func 81) #[] #[.pointer (some ⟨wr.heap.size + 1 + 1, 0, none⟩)], .int .i64 (x.1 : Int), .int .i64 x.2, undef, undef, undef, undef, undef, undef, undef, undef, undef, undef, undef, undef, u43, u44, u45, u46, u47, u48, undef, undef, undef, undef, undef, undef, undef, undef], defers := [] }) ?assign ?body ?done ?stop)
      case assign =>
        intro l' x W K hK
        gi_wp2
        exact hK
      case body =>
        rintro l' pre ⟨x1, x2⟩ W ⟨⟨a, ha, hbk, hat⟩, honly⟩ hlen
        have hrowW : Has W (w.heap.size + 1 + 1) _ cs := (honly.2 _ hrow0.lt (by show ¬ w.heap.size + 1 + 1 = _; omega)).trans hrow0
        have hbxW : Has W (w.heap.size + 1 + 1 + 1) _ _ := (honly.2 _ hbx0.lt (by show ¬ w.heap.size + 1 + 1 + 1 = _; omega)).trans hbx0
        have hr2W : Has W w.heap.size _ _ := (honly.2 _ hr20.lt (by show ¬ w.heap.size = _; omega)).trans hr20
        have hr3W : Has W (w.heap.size + 1) _ _ := (honly.2 _ hr30.lt (by show ¬ w.heap.size + 1 = _; omega)).trans hr30
        have c7 := hat.get (i := 0) rfl
        have f7 := hat.free 0
        have cbx := hbxW.get (i := 0) rfl
        have c2 := hr2W.get (i := 0) rfl
        have f2 := hr2W.free 0
        have c3 := hr3W.get (i := 0) rfl
        have f3 := hr3W.free 0
        have hone := Lib.hid (backK_one done (pre.map Prod.snd) x2 j a hbk.out)
        have hmap : (pre ++ [(x1, x2)]).map Prod.snd = pre.map Prod.snd ++ [x2] := by simp
        have hmapH := Lib.hid hmap
        clear hmap
        by_cases hbad : a ≠ 0 ∧ x2 = (a : Int) - 1
        · obtain ⟨ha0, rfl⟩ := hbad
          obtain ⟨y, rfl⟩ : ∃ y, a = y + 1 := ⟨a - 1, by omega⟩
          obtain ⟨z, hz1, hz2, hz3⟩ := hdH.out.2.2.get (j := y) (by rw [hdH.out.2.1]; omega)
          have crow := hrowW.get (hcsH.out.2 y z hz1)
          have hcy : ((y + 1 : Nat) : Int) - 1 = (y : Int) := by omega
          have hst : Hid (backK done ((pre ++ [(x1, ((y + 1 : Nat) : Int) - 1)]).map Prod.snd) j = some z) := by
            show _ = _
            rw [hmapH.out, hone.out, if_pos ⟨by omega, rfl⟩, show y + 1 - 1 = y by omega, hz2]
          have hstH := hst
          rw [hcy] at hstH c7 ⊢
          clear hz1 hz2 hcy hmapH hone ha0
          gi_wp2
          refine ⟨(KeepsOthers.setCell _ _ _).from _, ⟨(Below.refl _ _).setCell (p := ⟨wr.heap.size + 1, 0, none⟩) (by show _ ≤ wr.heap.size + 1; omega) _, World.cell?_setCell_other _ _ _ _ (fun e => by have := congrArg Addr.block e; simp at this)⟩, ⟨z, by omega, hstH, ?_⟩, honly.set rfl 0 _⟩
          have := hat.set 0 (.int .i64 ((z : Int) - 1))
          simpa using this
        · have hno : Hid (backK done ((pre ++ [(x1, x2)]).map Prod.snd) j = none) := by
            show _ = _
            rw [hmapH.out, hone.out, if_neg hbad]
          have hfin : XRel done j (wr.heap.size + 1) w.heap.size (w.heap.size + 1) W0 .ret (pre ++ [(x1, x2)]) ((W.setCell ⟨w.heap.size, 0, none⟩ (.slice none 0 0)).setCell ⟨w.heap.size + 1, 0, none⟩ (.bool false)) := by
            refine ⟨⟨rfl, hno, ?_, ?_⟩, ?_⟩
            · have := (hr2W.set 0 (.slice none 0 0)).other (p := ⟨w.heap.size + 1, 0, none⟩) (by show w.heap.size ≠ w.heap.size + 1; omega) (.bool false)
              simpa using this
            · have := (hr3W.other (p := ⟨w.heap.size, 0, none⟩) (by show w.heap.size + 1 ≠ w.heap.size; omega) (.slice none 0 0)).set 0 (.bool false)
              simpa using this
            · exact ((honly.more (fun k hk => .inl hk)).set (.inr (.inl rfl)) 0 _).set (.inr (.inr rfl)) 0 _
          have hfin := Lib.hid hfin
          clear hmapH hone
          by_cases hq : x2 = (a : Int) - 1
          · have ha0 : a = 0 := by
              by_cases e : a = 0
              · exact e
              · exact absurd ⟨e, hq⟩ hbad
            subst ha0
            clear hbad hq
            have hz : (((0 : Nat) : Int) - 1) = -1 := by omega
            rw [hz] at c7
            clear hz
            gi_wp2
            exact ⟨((KeepsOthers.setCell _ _ _).trans (KeepsOthers.setCell _ _ _)).from _, hfin.out⟩
          · have hq2 : (x2 != (a : Int) - 1) = true := by rw [bne_iff_ne]; exact hq
            clear hbad hq
            by_cases ha0 : a = 0
            · subst ha0
              have hz : (((0 : Nat) : Int) - 1) = -1 := by omega
              rw [hz] at c7
              clear hz hq2
              gi_wp2
              exact ⟨((KeepsOthers.setCell _ _ _).trans (KeepsOthers.setCell _ _ _)).from _, hfin.out⟩
            · have hlt0 : decide ((a : Int) - 1 < 0) = false := by simp; omega
              have hge : 1 ≤ (a : Int) := by omega
              gi_wp2
              exact ⟨((KeepsOthers.setCell _ _ _).trans (KeepsOthers.setCell _ _ _)).from _, hfin.out⟩
      case done =>
        rintro D ys W hD rfl ⟨⟨a, ha, hbk, hat⟩, honly⟩ hK
        have hbk := Lib.hid (by have h1 := hbk.out; rw [backF_all] at h1; exact h1 : backK done nd.kids.reverse j = some a)
        have hrowW : Has W (w.heap.size + 1 + 1) _ cs := (honly.2 _ hrow0.lt (by show ¬ w.heap.size + 1 + 1 = _; omega)).trans hrow0
        have hbxW : Has W (w.heap.size + 1 + 1 + 1) _ _ := (honly.2 _ hbx0.lt (by show ¬ w.heap.size + 1 + 1 + 1 = _; omega)).trans hbx0
        have hr2W : Has W w.heap.size _ _ := (honly.2 _ hr20.lt (by show ¬ w.heap.size = _; omega)).trans hr20
        have hr3W : Has W (w.heap.size + 1) _ _ := (honly.2 _ hr30.lt (by show ¬ w.heap.size + 1 = _; omega)).trans hr30
        have c7 := hat.get (i := 0) rfl
        have cbx := hbxW.get (i := 0) rfl
        obtain ⟨u, crow⟩ := hrowW.there (i := j) (by rw [hcsH.out.1]; exact hlt)
        have frow := hrowW.free j
        have hnext : Hid (StRel l w n (j + 1) (D :: Ds) (W.setCell ⟨w.heap.size + 1 + 1, j, none⟩ (.int .i64 (a : Int)))) := by
          have e1 : startsL l = startsF (l.drop (j + 1)) (done ++ [a]) := by
            have h1 := hdr.out
            rw [hdH.out.2.1, hbk.out] at h1
            exact hdH.out.1.trans h1
          refine ⟨done ++ [a], _, by omega, ⟨e1, by simp [hdH.out.2.1], hdH.out.2.2.snoc (by rw [hdH.out.2.1]; exact ha)⟩, hrowW.set j _, ⟨by simpa using hcsH.out.1, fun t x ht => ?_⟩, hr2W.other (by show _ ≠ w.heap.size + 1 + 1; omega) _, hr3W.other (by show _ ≠ w.heap.size + 1 + 1; omega) _, hbxW.other (by show _ ≠ w.heap.size + 1 + 1; omega) _, ?_, ?_⟩
          · have hdl := hdH.out.2.1
            rw [Array.getElem?_setIfInBounds]
            by_cases e : j = t
            · subst e
              rw [List.getElem?_append_right (by omega), hdl, Nat.sub_self] at ht
              obtain rfl := Option.some.inj ht
              rw [if_pos rfl, if_pos (by rw [hcsH.out.1]; exact hlt)]
            · rw [if_neg e]
              have htl : t < done.length := by
                by_cases h1 : t < done.length
                · exact h1
                · rw [List.getElem?_eq_none (by simp; omega)] at ht; cases ht
              rw [List.getElem?_append_left htl] at ht
              exact hcsH.out.2 t x ht
          · exact ((hb.trans (hbel.mono (by omega))).trans (honly.below (by omega) (fun k hk => by omega))).setCell (by show _ ≤ w.heap.size + 1 + 1; omega) _
          · have hlow : ∀ D' ∈ Ds, D' < wr.heap.size := fun D' h' => (Array.getElem?_eq_some_iff.1 (hDsH.out.2 D' h').2).1
            refine ⟨List.nodup_cons.2 ⟨fun hm => by have := hlow D hm; omega, hDsH.out.1⟩, fun D' h' => ?_⟩
            rcases List.mem_cons.1 h' with rfl | h'
            · exact ⟨by omega, (Below.heap_setCell W ⟨w.heap.size + 1 + 1, j, none⟩ _ _ (by show _ ≠ w.heap.size + 1 + 1; omega)).trans hK⟩
            · have h1 := hlow D' h'
              obtain ⟨h2, h3⟩ := hDsH.out.2 D' h'
              exact ⟨h2, (Below.heap_setCell W ⟨w.heap.size + 1 + 1, j, none⟩ _ _ (by show _ ≠ w.heap.size + 1 + 1; omega)).trans ((honly.2 D' (by omega) (by omega)).trans ((hbel.block D' h1).trans h3))⟩
        go_wp2_with fail
        refine ⟨⟨D :: Ds, j + 1, ?_⟩, ?_⟩
        · (repeat apply Exists.intro)
          exact ⟨hnext.out, rfl⟩
        · simp [intOf]; omega
      case stop =>
        rintro D c' pre W hD ⟨k, hk, rfl⟩ ⟨⟨rfl, hno, hr2W, hr3W⟩, honly⟩ hK
        refine wpIn_wide.2 ?_
        have hnone : shapeB l = false := by
          refine shapeB_none ?_
          have h1 := hdr.out
          have h2 := backK_pre done _ ((nd.kids.reverse).drop k) j hno.out
          have h3 : (upto (backF nd.kids) k).map Prod.snd ++ (nd.kids.reverse).drop k = nd.kids.reverse := by
            rw [← backF_all]
            have h4 : (upto (backF nd.kids) k) = (upto (backF nd.kids) nd.kids.length).take k := by
              simp only [upto, ← List.map_take, List.take_range]
              congr 1
              congr 1
              omega
            rw [h4, ← List.map_drop, ← List.map_append]
            conv => lhs; rw [List.take_append_drop]
          rw [h3] at h2
          rw [hdH.out.2.1, h2] at h1
          exact hdH.out.1.trans h1
        have hlow : ∀ D' ∈ Ds, D' < wr.heap.size := fun D' h' => (Array.getElem?_eq_some_iff.1 (hDsH.out.2 D' h').2).1
        have hnd2 : (D :: Ds).Nodup := List.nodup_cons.2 ⟨fun hm => by have := hlow D hm; omega, hDsH.out.1⟩
        have hmk2 : ∀ D' ∈ D :: Ds, W.heap[D']? = some (.deferred (some [])) := fun D' h' => by
          rcases List.mem_cons.1 h' with rfl | h'
          · exact hK
          · have h1 := hlow D' h'
            obtain ⟨h2, h3⟩ := hDsH.out.2 D' h'
            exact (honly.2 D' (by omega) (by omega)).trans ((hbel.block D' h1).trans h3)
        have hge : ∀ D' ∈ D :: Ds, w.heap.size + 4 ≤ D' := fun D' h' => by
          rcases List.mem_cons.1 h' with rfl | h'
          · omega
          · exact (hDsH.out.2 D' h').1
        have hbW : Below w.heap.size w W := (hb.trans (hbel.mono (by omega))).trans (honly.below (by omega) (fun k hk => by omega))
        have hnd2 := Lib.hid hnd2
        have hmk2 := Lib.hid hmk2
        have hge := Lib.hid hge
        have hnone := Lib.hid hnone
        clear hno
        go_wp2_with fail
        exact leaves_start (n := 3) (Ds := D :: Ds) (R := RetStartsI w l) hnd2.out hmk2.out hge.out hbW hr2W hr3W (fun W' hb' _ => RetStartsI.no hnone.out W' hb') rfl rfl
    · obtain rfl : j = n := by omega
      have hst : startsL l = some done := by
        rw [hdH.out.1, List.drop_eq_nil_of_le (by rw [hlnH.out]; omega)]
        rfl
      have hlow := hdH.out.2.2
      have hdl := hdH.out.2.1
      obtain ⟨x, hx, hxd, hxl⟩ := hlow.get (j := j - 1) (by omega)
      have hcx : wr.cell? ⟨w.heap.size + 1 + 1, j - 1, none⟩ = some (.int .i64 (x : Int)) := hrow.get (hcsH.out.2 _ x hx)
      have cbx : wr.cell? ⟨w.heap.size + 1 + 1 + 1, 0, none⟩ = some (.slice (some ⟨w.heap.size + 1 + 1, 0, none⟩) j j) := hbx.get (i := 0) rfl
      have c2 : wr.cell? ⟨w.heap.size, 0, none⟩ = some (.slice none 0 0) := hr2.get (i := 0) rfl
      have f2 := hr2.free 0
      have c3 : wr.cell? ⟨w.heap.size + 1, 0, none⟩ = some (.bool false) := hr3.get (i := 0) rfl
      have f3 := hr3.free 0
      have hshape : shapeB l = (x == 0) := by rw [shapeB_some (by rw [hlnH.out]; exact hin) hst, hlnH.out, hxd]
      have hH := Lib.hid (⟨hst, hshape⟩ : startsL l = some done ∧ shapeB l = (x == 0))
      clear hst hshape hx hxd hlow hdl
      go_wp2_with fail
      go_region
      go_wp2_with fail
      refine leaves_start (n := 3) (v := .slice (some ⟨w.heap.size + 1 + 1, 0, none⟩) j j) (x := ((x : Int) == 0)) hDsH.out.1 (fun D hD => ?_) (fun D hD => (hDsH.out.2 D hD).1) ?_ ?_ ?_ (fun W' hb' hk' => ?_) rfl rfl
      · obtain ⟨h2, h3⟩ := hDsH.out.2 D hD
        show ((wr.setCell _ _).setCell _ _).heap[D]? = _
        exact (Below.heap_setCell _ ⟨w.heap.size + 1, 0, none⟩ _ _ (by show _ ≠ w.heap.size + 1; omega)).trans ((Below.heap_setCell _ ⟨w.heap.size, 0, none⟩ _ _ (by show _ ≠ w.heap.size; omega)).trans h3)
      · exact ((hb.setCell (p := ⟨w.heap.size, 0, none⟩) (Nat.le_refl _) _).setCell (p := ⟨w.heap.size + 1, 0, none⟩) (by show _ ≤ w.heap.size + 1; omega) _).drew
      · have := (hr2.set 0 (.slice (some ⟨w.heap.size + 1 + 1, 0, none⟩) j j)).other (p := ⟨w.heap.size + 1, 0, none⟩) (by show w.heap.size ≠ w.heap.size + 1; omega) (.bool ((x : Int) == 0))
        have h2 := this.drew
        simpa using h2
      · have := (hr3.other (p := ⟨w.heap.size, 0, none⟩) (by show w.heap.size + 1 ≠ w.heap.size; omega) (.slice (some ⟨w.heap.size + 1 + 1, 0, none⟩) j j)).set 0 (.bool ((x : Int) == 0))
        have h2 := this.drew
        simpa using h2
      · have h3 : Has W' (w.heap.size + 1 + 1) 3 cs := by
          refine (hk' _ (by omega)).trans ?_
          show ((wr.setCell _ _).setCell _ _).heap[_]? = _
          exact (Below.heap_setCell _ ⟨w.heap.size + 1, 0, none⟩ _ _ (by show _ ≠ w.heap.size + 1; omega)).trans ((Below.heap_setCell _ ⟨w.heap.size, 0, none⟩ _ _ (by show _ ≠ w.heap.size; omega)).trans hrow)
        have he : ((x : Int) == 0) = shapeB l := by rw [hH.out.2, Bool.eq_iff_iff, beq_iff_eq, beq_iff_eq]; omega
        rw [he]
        exact RetStartsI.yes hH.out.1 hdH.out.2.2 hdH.out.2.1 (by omega) h3 hcsH.out.2 hb'
theorem i_startsOf (v : Value) (l : List PNode) (w : World) (h : NodesIn w w.heap.size v l) : Calls Tryz.prog 38 #[v] w (RetStartsI w l) := by
  have g := h
  obtain ⟨A, c, rfl, hlc, hcm, r⟩ := h
  clear r
  unfold maxLen at hcm
  cases hin : inB (l.length : Int) 1 400
  · have hno := Lib.hid (shapeB_size hin)
    go_enter Tryz.func38, Tryz.ntmps38
    go_wp2_with (go_at_call 28; refine (i_within _ _ _ _).mono ?_; rintro e w' ⟨rfl, rfl⟩)
    refine bodyPost_ret (v := .tuple #[.slice none 0 0, .bool false]) (by simp [results, Tryz.results38, go_sem]) rfl (RetStartsI.no hno.out _ ?_)
    repeat (first | exact Below.refl _ _ | refine Below.alloc ?_ (by simp; try omega) _ | refine Below.setCell ?_ (by simp; try omega) _)
  · have hr := inB_true.1 hin
    exact i_startsOf_yes A l.length c l w (by omega) (by omega) rfl g
end Go.Proofs.YtlabmboedjnpmaaGreatDoor
