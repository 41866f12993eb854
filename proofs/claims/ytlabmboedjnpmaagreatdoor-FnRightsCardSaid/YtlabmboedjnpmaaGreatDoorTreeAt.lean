/- The tree of a node (walk of the program): treeAt. -/
import Derived.Test.YtlabmboedjnpmaaGreatDoorBackR
import Derived.Test.YtlabmboedjnpmaaGreatDoorShapeI
import Derived.Deep.AppendLies
import Derived.Deep.RegionLaw
namespace Go.Proofs.YtlabmboedjnpmaaGreatDoor
open Go.RowKit
set_option linter.unusedVariables false

theorem info_tree : (Tryz.prog.info? 40).map (fun i => (i.zero, i.size, i.bytes)) = some (some (.agg #[.int .i64 0, .int .i64 0, .string ⟨#[]⟩, .string ⟨#[]⟩, .slice none 0 0]), 5, 72) := by kernel_rfl
/-- the blocks that a call has made -/
def Made (a b : Nat) (k : Nat) : Prop := a ≤ k ∧ k < b
def RetTree (l : List PNode) (w : World) (f : Nat) (nd : PNode) (e : Ending) (w' : World) : Prop :=
  ∃ A c, e = .returned (.agg #[.int .i64 nd.kind, .int .i64 nd.op, .string nd.text, .string nd.other, .slice A nd.kids.length c]) ∧ KidsV l (Made w.heap.size w'.heap.size) w' f nd.kids (.slice A nd.kids.length c) ∧ Below w.heap.size w w'
/-- the blocks of the trees in a row that lies by itself -/
def RowS (base : Nat) (wr : World) (v : Value) (k : Nat) : Prop := base ≤ k ∧ k < wr.heap.size ∧ v.ownBlock ≠ some k
theorem ownsRow_below {w w' : World} {B base e size n : Nat} {v : Value} {xs : List Value} (h : w.ownsRow base e size v n xs) (hb : Below B w w') (hB : w.heap.size ≤ B) : w'.ownsRow base e size v n xs := by
  refine ⟨h.1, ?_⟩
  rcases h.2 with h0 | ⟨g, cap, cur, hv, hb1, hg, r⟩
  · exact .inl h0
  · exact .inr ⟨g, cap, cur, hv, hb1, (hb.block g (by have := (Array.getElem?_eq_some_iff.1 hg).1; omega)).trans hg, r⟩
theorem step_app_tree {ops : Array Oper} {o : Oper} {a : Act} {K : Act → World → Prop} {Q : Exit → Act → World → Prop} {E : Prop} {w : World} (hgd : o.guard = none) (s x : Operand)
    (ho : o.op = .call { callee := .builtin .append, args := #[s, x], argTypes := #[38, 38] }) (base : Nat) (v : Value) (j : Nat) (xs : List Value) (hs : a.eval s = v) (hown : w.ownsRow base 40 5 v j xs)
    (g c : Nat) (k p : Int) (t u : ByteArray) (A : Option Addr) (n1 c1 : Nat) (hx : a.eval x = .slice (some ⟨g, 0, none⟩) 1 c) (hg : Has w g 40 #[.int .i64 k, .int .i64 p, .string t, .string u, .slice A n1 c1])
    (hj : j ≤ 1048576) (hbase : base ≤ w.heap.size) (H : Nat) (hH : w.heap.size = H)
    (h : ∀ g' cap w', w'.ownsRow base 40 5 (.slice (some ⟨g', 0, none⟩) (j + 1) cap) (j + 1) (xs ++ [.int .i64 k, .int .i64 p, .string t, .string u, .slice A n1 c1]) → w.grownBy w' v.ownBlock → (v.ownBlock = some g' ∨ g' = H) → g' < w'.heap.size → K (a.put o.dst (.slice (some ⟨g', 0, none⟩) (j + 1) cap)) w') :
    if Region.wanted o (yielded ops a.tmps) = true then Oper.wp Tryz.prog o a w K Q else E := by
  obtain ⟨i0, hi, hz0, hz1, hz2⟩ := info_parts info_tree
  refine step_append_lies w hgd s x 38 ho base 40 i0 _ 5 72 Tryz.underlying38 hi hz0 hz1 hz2 rfl (by omega) v j xs hs hown ⟨g, 0, none⟩ 1 c _ hx rfl (World.news_of_block hg) (fun y hy => ?_) (by omega) (by unfold maxLen; omega) (by omega) hbase H hH h
  simp at hy
  rcases hy with rfl | rfl | rfl | rfl | rfl <;> rfl
theorem NodesIn.drewN {w : World} {B : Nat} {v : Value} {l : List PNode} (h : NodesIn w B v l) (n : Nat) : NodesIn (w.drewN n) B v l := h
theorem ownsRow_set {w : World} {base e size n : Nat} {v : Value} {xs : List Value} (h : w.ownsRow base e size v n xs) {p : Addr} (hp : p.block < base) (u : Value) : (w.setCell p u).ownsRow base e size v n xs := by
  refine ⟨h.1, ?_⟩
  rcases h.2 with h0 | ⟨g, cap, cur, hv, hb1, hg, r⟩
  · exact .inl h0
  · exact .inr ⟨g, cap, cur, hv, hb1, (Below.heap_setCell w p u g (by omega)).trans hg, r⟩
/-- a kid's tree has been appended: what holds anew -/
theorem tree_round {l : List PNode} {w wr w1 w2 : World} {nd kd : PNode} {j k cv g cap c1 f : Nat} {Av A1 : Option Addr} {xs : List Value} (hsz : w.heap.size + 3 ≤ wr.heap.size) (hb : Below w.heap.size w wr)
    (h4 : Has wr w.heap.size 40 #[.int .i64 0, .int .i64 0, .string ⟨#[]⟩, .string ⟨#[]⟩, .slice none 0 0])
    (h6 : Has wr (w.heap.size + 1 + 1) 40 #[.int .i64 nd.kind, .int .i64 nd.op, .string nd.text, .string nd.other, .slice Av j cv])
    (hown : wr.ownsRow (w.heap.size + 3) 40 5 (.slice Av j cv) j xs) (hrow : TreeRow l (RowS (w.heap.size + 3) wr (.slice Av j cv)) wr f (nd.kids.take j) xs)
    (hb1 : Below (wr.drewN 1).heap.size (wr.drewN 1) w1) (hkv : KidsV l (Made (wr.drewN 1).heap.size w1.heap.size) w1 f kd.kids (.slice A1 kd.kids.length c1)) (hx : nd.kids[j]? = some (k : Int)) (hkd : l[k]? = some kd)
    (hgrow : (w1.alloc (.cells #[.int .i64 kd.kind, .int .i64 kd.op, .string kd.text, .string kd.other, .slice A1 kd.kids.length c1] 40)).grownBy w2 (Value.slice Av j cv).ownBlock) (hat : (Value.slice Av j cv).ownBlock = some g ∨ g = w1.heap.size + 1) (hlt2 : g < w2.heap.size)
    (hown2 : w2.ownsRow (w.heap.size + 3) 40 5 (.slice (some ⟨g, 0, none⟩) (j + 1) cap) (j + 1) (xs ++ [.int .i64 kd.kind, .int .i64 kd.op, .string kd.text, .string kd.other, .slice A1 kd.kids.length c1])) :
    Has (w2.setCell ⟨w.heap.size + 1 + 1, 4, none⟩ (.slice (some ⟨g, 0, none⟩) (j + 1) cap)) w.heap.size 40 #[.int .i64 0, .int .i64 0, .string ⟨#[]⟩, .string ⟨#[]⟩, .slice none 0 0] ∧
    Has (w2.setCell ⟨w.heap.size + 1 + 1, 4, none⟩ (.slice (some ⟨g, 0, none⟩) (j + 1) cap)) (w.heap.size + 1 + 1) 40 #[.int .i64 nd.kind, .int .i64 nd.op, .string nd.text, .string nd.other, .slice (some ⟨g, 0, none⟩) (j + 1) cap] ∧
    Hid ((w2.setCell ⟨w.heap.size + 1 + 1, 4, none⟩ (.slice (some ⟨g, 0, none⟩) (j + 1) cap)).ownsRow (w.heap.size + 3) 40 5 (.slice (some ⟨g, 0, none⟩) (j + 1) cap) (j + 1) (xs ++ [.int .i64 kd.kind, .int .i64 kd.op, .string kd.text, .string kd.other, .slice A1 kd.kids.length c1])) ∧
    Hid (TreeRow l (RowS (w.heap.size + 3) (w2.setCell ⟨w.heap.size + 1 + 1, 4, none⟩ (.slice (some ⟨g, 0, none⟩) (j + 1) cap)) (.slice (some ⟨g, 0, none⟩) (j + 1) cap)) (w2.setCell ⟨w.heap.size + 1 + 1, 4, none⟩ (.slice (some ⟨g, 0, none⟩) (j + 1) cap)) f (nd.kids.take (j + 1)) (xs ++ [.int .i64 kd.kind, .int .i64 kd.op, .string kd.text, .string kd.other, .slice A1 kd.kids.length c1])) ∧
    Below w.heap.size w (w2.setCell ⟨w.heap.size + 1 + 1, 4, none⟩ (.slice (some ⟨g, 0, none⟩) (j + 1) cap)) := by
  have e0 : (wr.drewN 1).heap.size = wr.heap.size := rfl
  have s1 := hb1.size
  rw [e0] at s1
  have s2 := hgrow.size
  simp only [World.size_alloc] at s2
  have hvl : ∀ b, (Value.slice Av j cv).ownBlock = some b → w.heap.size + 3 ≤ b ∧ b < wr.heap.size := fun b hb => hown.lt b hb
  -- a block of before the append that is not the row's
  have far : ∀ b, b < w1.heap.size → (Value.slice Av j cv).ownBlock ≠ some b → w2.heap[b]? = w1.heap[b]? := fun b h1 h2 =>
    (hgrow.block b (by simp; omega) (fun e => h2 e.symm)).trans (Below.heap_alloc w1 _ b h1)
  have old : ∀ b, b < wr.heap.size → (Value.slice Av j cv).ownBlock ≠ some b → w2.heap[b]? = wr.heap[b]? := fun b h1 h2 =>
    (far b (by omega) h2).trans (hb1.block b h1)
  have n0 : (Value.slice Av j cv).ownBlock ≠ some w.heap.size := fun e => by have := (hvl _ e).1; omega
  have n2 : (Value.slice Av j cv).ownBlock ≠ some (w.heap.size + 1 + 1) := fun e => by have := (hvl _ e).1; omega
  have k4 : Has w2 w.heap.size _ _ := (old _ (by omega) n0).trans h4
  have k6 : Has w2 (w.heap.size + 1 + 1) _ _ := (old _ (by omega) n2).trans h6
  obtain ⟨W3, hW3⟩ : ∃ W3, w2.setCell ⟨w.heap.size + 1 + 1, 4, none⟩ (.slice (some ⟨g, 0, none⟩) (j + 1) cap) = W3 := ⟨_, rfl⟩
  have far3 : ∀ b, b ≠ w.heap.size + 1 + 1 → W3.heap[b]? = w2.heap[b]? := fun b hb => by rw [← hW3]; exact Below.heap_setCell w2 ⟨w.heap.size + 1 + 1, 4, none⟩ _ b hb
  have s3 : W3.heap.size = w2.heap.size := by rw [← hW3]; simp
  have cellOf : ∀ {b : Nat} {X Y : World}, X.heap[b]? = Y.heap[b]? → ∀ o, X.cell? ⟨b, o, none⟩ = Y.cell? ⟨b, o, none⟩ := fun h o => World.cell?_of_block h
  have hb2 : Below w.heap.size w w2 := (((below_drewN hb 1).trans (hb1.mono (by omega))).alloc (by omega) _).grown hgrow (by simp; omega) (fun b e => by have := (hvl b e).1; omega)
  refine ⟨k4.other (by show w.heap.size ≠ w.heap.size + 1 + 1; omega) _, ?_, ownsRow_set hown2 (by show w.heap.size + 1 + 1 < _; omega) _, ?_, hb2.setCell (by show _ ≤ w.heap.size + 1 + 1; omega) _⟩
  · have := k6.set 4 (.slice (some ⟨g, 0, none⟩) (j + 1) cap)
    simpa using this
  · show TreeRow _ _ _ _ _ _
    rw [hW3]
    have htk : nd.kids.take (j + 1) = nd.kids.take j ++ [(k : Int)] := by rw [List.take_add_one, hx]; rfl
    rw [htk]
    refine TreeRow.snoc (hrow.same (fun b hb => ?_) (fun b hb => ?_)) (by simpa using hkd) (hkv.same (fun b hb => ?_) (fun b hb => ?_))
    · obtain ⟨p1, p2, p3⟩ := hb
      refine ⟨p1, by omega, fun e => ?_⟩
      have e2 : g = b := by simpa [Value.ownBlock] using e
      rcases hat with h | h
      · exact p3 (by rw [h, e2])
      · omega
    · obtain ⟨p1, p2, p3⟩ := hb
      exact cellOf ((far3 b (by omega)).trans (old b p2 p3))
    · obtain ⟨p1, p2⟩ := hb
      rw [e0] at p1
      refine ⟨by omega, by omega, fun e => ?_⟩
      have e2 : g = b := by simpa [Value.ownBlock] using e
      rcases hat with h | h
      · have := (hvl g h).2; omega
      · omega
    · obtain ⟨p1, p2⟩ := hb
      rw [e0] at p1
      exact cellOf ((far3 b (by omega)).trans (far b p2 (fun e => by have := (hvl b e).2; omega)))
theorem tree_end {l : List PNode} {w wr : World} {ks : List Int} {f cv m : Nat} {Av : Option Addr} {xs : List Value} (hm : ks.length = m) (hsz : w.heap.size + 3 ≤ wr.heap.size) (hrow : TreeRow l (RowS (w.heap.size + 3) wr (.slice Av m cv)) wr f ks xs)
    (hown : wr.ownsRow (w.heap.size + 3) 40 5 (.slice Av m cv) m xs) : ∀ W, W.heap.size = wr.heap.size → (∀ b, b ≠ w.heap.size → W.heap[b]? = wr.heap[b]?) → KidsV l (Made w.heap.size W.heap.size) W (f + 1) ks (.slice Av ks.length cv) := by
  subst hm
  intro W hs hW
  have h1 : KidsV l (Made (w.heap.size + 3) wr.heap.size) wr (f + 1) ks (.slice Av ks.length cv) :=
    KidsV.of_row (fun b hb => ⟨hb.1, hb.2.1⟩) (fun g hg => hown.lt g hg) hrow hown
  exact h1.same (fun b hb => ⟨by have := hb.1; omega, by rw [hs]; exact hb.2⟩) (fun b hb o => World.cell?_of_block (hW b (by have := hb.1; omega)))
theorem set5_other (w : World) (g : Nat) (a b c d e : Value) (k : Nat) (hk : k ≠ g) : (((((w.setCell ⟨g, 0, none⟩ a).setCell ⟨g, 1, none⟩ b).setCell ⟨g, 2, none⟩ c).setCell ⟨g, 3, none⟩ d).setCell ⟨g, 4, none⟩ e).heap[k]? = w.heap[k]? :=
  (Below.heap_setCell _ ⟨g, 4, none⟩ e k hk).trans ((Below.heap_setCell _ ⟨g, 3, none⟩ d k hk).trans ((Below.heap_setCell _ ⟨g, 2, none⟩ c k hk).trans ((Below.heap_setCell _ ⟨g, 1, none⟩ b k hk).trans (Below.heap_setCell _ ⟨g, 0, none⟩ a k hk))))
set_option maxRecDepth 100000 in
set_option maxHeartbeats 4000000 in
theorem i_treeAt (A : Option Addr) (n c : Nat) (l : List PNode) (hln : l.length = n) (hn4 : n ≤ 400) (hlow : KidsLow l) (hbulk : ∀ nd ∈ l, nd.kids.length ≤ 1048576) : ∀ (f i : Nat) (nd : PNode) (w : World), i < f → l[i]? = some nd → NodesIn w w.heap.size (.slice A n c) l →
    Calls Tryz.prog 41 #[.slice A n c, .int .i64 (i : Int)] w (RetTree l w f nd) := by
  intro f
  induction f with
  | zero => intro i nd w hif; omega
  | succ f ih =>
    intro i nd w hif hnd h
    have hN := Lib.hid h
    have hkl := Lib.hid (hlow i nd hnd)
    have hil := (List.getElem?_eq_some_iff.1 hnd).1
    have hkb := Lib.hid (hbulk nd (List.mem_of_getElem? hnd))
    obtain ⟨A', c', e, hlc, hcm, hcell, hszn⟩ := h
    obtain ⟨rfl, hx, rfl⟩ := Value.slice.inj e
    clear e hszn hx
    rw [hln] at hil hlc hcell
    obtain ⟨b, off, hA, hlt2, hc⟩ := hcell (by omega)
    subst hA
    obtain ⟨kv, e0, e1, e2, e3, e4, K, kc, rfl, hk1, hk2, hk3, hk4⟩ := hc i nd hnd
    have hndH := Lib.hid hnd
    have hlowH := Lib.hid hlow
    have hbulkH := Lib.hid hbulk
    have hlnH := Lib.hid hln
    have ihH := Lib.hid ih
    clear hcell hc hk4 hnd hlow hbulk hln ih
    unfold maxLen at hcm hk2
    obtain ⟨m, hm⟩ : ∃ m, nd.kids.length = m := ⟨_, rfl⟩
    rw [hm] at e4 hk1 hk3
    have hkm : m ≤ 1048576 := by have := hkb.out; omega
    have hmH := Lib.hid hm
    clear hm
    go_enter Tryz.func41, Tryz.ntmps41
    go_wp2_with fail
    go_loopw [25] (fun z wr => ∃ (j cv : Nat) (Av : Option Addr) (xs : List Value), j ≤ m ∧ z = .int .i64 j ∧ Has wr w.heap.size 40 #[.int .i64 0, .int .i64 0, .string ⟨#[]⟩, .string ⟨#[]⟩, .slice none 0 0] ∧
        Has wr (w.heap.size + 1 + 1) 40 #[.int .i64 nd.kind, .int .i64 nd.op, .string nd.text, .string nd.other, .slice Av j cv] ∧ Hid (wr.ownsRow (w.heap.size + 3) 40 5 (.slice Av j cv) j xs) ∧
        Hid (TreeRow l (RowS (w.heap.size + 3) wr (.slice Av j cv)) wr f (nd.kids.take j) xs) ∧ Below w.heap.size w wr) (fun z _ => (m - (intOf z).toNat))
    case atStart =>
      refine ⟨0, 0, none, [], by omega, by go_num, ?_, ?_, World.ownsRow_nil _ _ _ _, TreeRow.nil _ _ _ _, ?_⟩
      · exact (((Has.made _ _ _).alloc _).alloc _ : Has _ w.heap.size _ _)
      · have := Has.made ((w.alloc (.cells #[.int .i64 0, .int .i64 0, .string ⟨#[]⟩, .string ⟨#[]⟩, .slice none 0 0] 40)).alloc (.cells #[.int .i64 nd.kind, .int .i64 nd.op, .string nd.text, .string nd.other, .slice K m kc] 30)) 40 #[.int .i64 nd.kind, .int .i64 nd.op, .string nd.text, .string nd.other, .slice none 0 0]
        simpa using this
      · repeat (first | exact Below.refl _ _ | refine Below.alloc ?_ (by simp; try omega) _)
    case round =>
      obtain ⟨j, cv, Av, xs, hj, rfl, h4, h6, hown, hrow, hb⟩ := hrel
      have hsz : w.heap.size + 3 ≤ wr.heap.size := by have := h6.lt; omega
      by_cases hlt : j < m
      · obtain ⟨x, hx⟩ : ∃ x, nd.kids[j]? = some x := ⟨nd.kids[j]'(by rw [hmH.out]; exact hlt), List.getElem?_eq_getElem _⟩
        obtain ⟨bk, ok, hK, hbl, hkc⟩ := hk3 (by omega)
        subst hK
        have ex := (hb.cell (p := ⟨bk, ok + j, none⟩) hbl).trans (hkc j x hx)
        obtain ⟨hx0, hx1⟩ := hkl.out x (List.mem_of_getElem? hx)
        obtain ⟨k, rfl⟩ := Int.eq_ofNat_of_zero_le hx0
        have hki : k < i := by omega
        obtain ⟨kd, hkd⟩ : ∃ kd, l[k]? = some kd := ⟨l[k]'(by rw [hlnH.out]; omega), List.getElem?_eq_getElem _⟩
        have hxH := Lib.hid hx
        have hkdH := Lib.hid hkd
        have hNr := Lib.hid (((hN.out.keep hb (Nat.le_refl _)).more hb.size).drewN 1)
        have c60 := h6.get (i := 0) rfl
        have c61 := h6.get (i := 1) rfl
        have c62 := h6.get (i := 2) rfl
        have c63 := h6.get (i := 3) rfl
        have c64 := h6.get (i := 4) rfl
        have f64 := h6.free 4
        have h6H := Lib.hid h6
        have h4H := Lib.hid h4
        have hbd : Below w.heap.size w wr.drew := below_drewN hb 1
        clear hx hkd hkc hk3 hx0 hx1 h6 h4
        have hkf : k < f := by omega
        have hkeep : ∀ W', Below wr.drew.heap.size wr.drew W' → W'.cell? ⟨w.heap.size + 1 + 1, 4, none⟩ = some (.slice Av j cv) := fun W' hW => (hW.cell (p := ⟨w.heap.size + 1 + 1, 4, none⟩) (by show w.heap.size + 1 + 1 < wr.heap.size; omega)).trans c64
        have hfkeep : ∀ W', Below wr.drew.heap.size wr.drew W' → W'.frozen? ⟨w.heap.size + 1 + 1, 4, none⟩ = false := fun W' hW => (hW.frozen (p := ⟨w.heap.size + 1 + 1, 4, none⟩) (by show w.heap.size + 1 + 1 < wr.heap.size; omega)).trans f64
        go_wp2_with fail
        go_region_law (first
          | ((refine step_app_tree (by rfl) _ _ (by rfl) (w.heap.size + 3) (.slice Av j cv) j xs (by rfl) ((ownsRow_below (show (wr.drewN 1).ownsRow (w.heap.size + 3) 40 5 (.slice Av j cv) j xs from hown.out) hb1 (Nat.le_refl _)).alloc _) w1.heap.size 1 kd.kind kd.op kd.text kd.other A1 kd.kids.length c1 (by rfl) (Has.made _ _ _) (by omega) (by have := hb1.size; have : (wr.drewN 1).heap.size = wr.heap.size := rfl; simp; omega) (w1.heap.size + 1) (by simp) ?_; intro g cap w2 hown2 hgrow hat hlt2; have hkeep3 : w2.cell? ⟨w.heap.size + 1 + 1, 4, none⟩ = some (.slice Av j cv) := (grown_cell hgrow (by have := hb1.size; have : (wr.drewN 1).heap.size = wr.heap.size := rfl; simp; omega) (fun e => by have := (hown.out.lt (w.heap.size + 1 + 1) e.symm).1; omega) 4).trans (hkeep _ (hb1.alloc hb1.size _)); have hfr3 : w2.frozen? ⟨w.heap.size + 1 + 1, 4, none⟩ = false := (World.grownBy.frozen_far hgrow ⟨w.heap.size + 1 + 1, 4, none⟩ (by have := hb1.size; have : (wr.drewN 1).heap.size = wr.heap.size := rfl; simp; omega) (fun e => by have := (hown.out.lt (w.heap.size + 1 + 1) e.symm).1; omega)).trans (hfkeep _ (hb1.alloc hb1.size _)); have hatH := Lib.hid hat; have hown2H := Lib.hid hown2; clear hat hown2))
          | ((go_simp; refine (ihH.out k kd _ hkf hkdH.out hNr.out).mono ?_; rintro e w1 ⟨A1, c1, rfl, hkv, hb1⟩; have hkp1 := hkeep _ hb1; have hkp2 : w.heap.size + 1 + 1 < w1.heap.size := (by have h5 := hb1.size; have h6 : (wr.drewN 1).heap.size = wr.heap.size := rfl; omega); dsimp only)))
        all_goals
          have hnext := Lib.hid (tree_round hsz hb h4H.out h6H.out hown.out hrow.out hb1 hkv hxH.out hkdH.out hgrow hatH.out hlt2 hown2H.out)
          clear hb1 hkv hgrow
          go_wp2_with fail
          go_roundw
          case rel => exact ⟨j + 1, cap, some ⟨g, 0, none⟩, _, by omega, by go_num, hnext.out⟩
          case measure => simp [intOf]; omega
      · obtain rfl : j = m := by omega
        have hall : nd.kids.take j = nd.kids := List.take_of_length_le (by rw [hmH.out]; exact Nat.le_refl _)
        have hfin := tree_end hmH.out hsz (by have h1 := hrow.out; rw [hall] at h1; exact h1) hown.out
        have hfin := Lib.hid hfin
        have c60 := h6.get (i := 0) rfl
        have c61 := h6.get (i := 1) rfl
        have c62 := h6.get (i := 2) rfl
        have c63 := h6.get (i := 3) rfl
        have c64 := h6.get (i := 4) rfl
        have c40 := h4.get (i := 0) rfl
        have c41 := h4.get (i := 1) rfl
        have c42 := h4.get (i := 2) rfl
        have c43 := h4.get (i := 3) rfl
        have c44 := h4.get (i := 4) rfl
        have f40 := h4.free 0
        have f41 := h4.free 1
        have f42 := h4.free 2
        have f43 := h4.free 3
        have f44 := h4.free 4
        clear hall
        go_wp2_with fail
        refine bodyPost_ret (v := .agg #[.int .i64 nd.kind, .int .i64 nd.op, .string nd.text, .string nd.other, .slice Av j cv]) (by simp [results, Tryz.results41, go_sem, c40, c41, c42, c43, c44]) rfl ⟨Av, cv, by rw [hmH.out], ?_, ?_⟩
        · exact hfin.out _ (by simp) (fun b hb => set5_other _ _ _ _ _ _ _ b hb)
        · exact ((((hb.setCell (p := ⟨w.heap.size, 0, none⟩) (Nat.le_refl _) _).setCell (p := ⟨w.heap.size, 1, none⟩) (Nat.le_refl _) _).setCell (p := ⟨w.heap.size, 2, none⟩) (Nat.le_refl _) _).setCell (p := ⟨w.heap.size, 3, none⟩) (Nat.le_refl _) _).setCell (p := ⟨w.heap.size, 4, none⟩) (Nat.le_refl _) _
end Go.Proofs.YtlabmboedjnpmaaGreatDoor
