/- Several texts in one (printed by a program): BentPure, LevelOf, RightsPure, BentMem, BentRow. -/
import Derived.Test.YtlabmboedjnpmaaGreatDoorGenP
import Derived.Test.YtlabmboedjnpmaaGreatDoorDepthR
import Derived.Test.YtlabmboedjnpmaaGreatDoorPartPure
/-! BentPure -/
namespace Go.Proofs.YtlabmboedjnpmaaGreatDoor
open Go.RowKit
set_option linter.unusedVariables false
/-- a node of a spoilt list -/
structure SmallN (nd : PNode) : Prop where
  kind : -1 ≤ nd.kind ∧ nd.kind ≤ 100
  op : -1 ≤ nd.op ∧ nd.op ≤ 200
  text : nd.text.size ≤ 16
  other : nd.other.size ≤ 16
  few : nd.kids.length ≤ 9
  kids : ∀ k ∈ nd.kids, -1 ≤ k ∧ k ≤ 1000
def SmallT (l : List PNode) : Prop := l.length ≤ 2000 ∧ ∀ nd ∈ l, SmallN nd
theorem GoodN.smallN {N : Nat} {nd : PNode} (h : GoodN N nd) (hN : N ≤ 1000) : SmallN nd :=
  ⟨by have := h.kind; omega, by have := h.op; omega, h.text, h.other, by have := h.few; omega, fun k hk => by have := h.kids k hk; omega⟩
theorem GoodT.smallT {l : List PNode} (h : GoodT l) (hl : l.length ≤ 1000) : SmallT l := ⟨by omega, fun nd hn => (h nd hn).smallN hl⟩
theorem SmallT.set {l : List PNode} (h : SmallT l) {x : Nat} {nd : PNode} (hn : SmallN nd) : SmallT (l.set x nd) := by
  refine ⟨by rw [List.length_set]; exact h.1, fun y hy => ?_⟩
  rcases List.mem_or_eq_of_mem_set hy with hy | rfl
  · exact h.2 y hy
  · exact hn
theorem SmallT.take {l : List PNode} (h : SmallT l) (x : Nat) : SmallT (l.take x) := ⟨by rw [List.length_take]; have := h.1; omega, fun y hy => h.2 y (List.mem_of_mem_take hy)⟩
theorem SmallN.ok {nd : PNode} (h : SmallN nd) : (okInt nd.kind ∧ okInt nd.op ∧ nd.text.size ≤ maxLen ∧ nd.other.size ≤ maxLen) ∧ ∀ k ∈ nd.kids, okInt k := by
  have h1 := h.kind
  have h2 := h.op
  have h3 := h.text
  have h4 := h.other
  refine ⟨⟨?_, ?_, ?_, ?_⟩, fun k hk => ?_⟩
  · unfold okInt; omega
  · unfold okInt; omega
  · unfold maxLen; omega
  · unfold maxLen; omega
  · have := h.kids k hk
    unfold okInt
    omega
theorem SmallT.bulk {l : List PNode} (h : SmallT l) : nodesBulk l ≤ 1048576 := by
  have key : ∀ (l : List PNode), (∀ nd ∈ l, SmallN nd) → bulkSum l ≤ l.length * 41 := by
    intro l
    induction l with
    | nil => intro _; exact Nat.le_refl _
    | cons x r ih =>
      intro h
      have h1 := h x (List.mem_cons_self ..)
      have h2 := ih fun y hy => h y (List.mem_cons_of_mem _ hy)
      have h3 := h1.text
      have h4 := h1.other
      have h5 := h1.few
      simp only [bulkSum, nodeBulk, List.length_cons]
      omega
  have h1 := key l h.2
  have h2 := h.1
  unfold nodesBulk
  omega
/-- the field of a node as its cell holds it -/
def fieldV (nd : PNode) : Nat → Value
  | 0 => .int .i64 nd.kind
  | 1 => .int .i64 nd.op
  | 2 => .string nd.text
  | _ => .string nd.other
/-- a field of a node of a list of the call's own has been stored -/
theorem OwnN.put {w : World} {base b n c : Nat} {l : List PNode} (h : OwnN w base (.slice (some ⟨b, 0, none⟩) n c) l) {x f : Nat} {nd nd' : PNode} (hx : l[x]? = some nd) (hf : f < 4) (hk : nd'.kids = nd.kids) (hs : ∀ j, j < 4 → j ≠ f → fieldV nd' j = fieldV nd j) (hS : SmallT l) (hS' : SmallN nd') :
    NodesIn (w.setCell ⟨b, x * 5 + f, none⟩ (fieldV nd' f)) (w.setCell ⟨b, x * 5 + f, none⟩ (fieldV nd' f)).heap.size (.slice (some ⟨b, 0, none⟩) n c) (l.set x nd') := by
  obtain ⟨q, rfl, h⟩ := h
  rcases row_open h.1 with ⟨e, _⟩ | ⟨b2, cap, e, hb, hgl, q1, q2, hc⟩
  · cases e
  injection e with e1 e2 e3
  injection e1 with e1
  injection e1 with e1
  subst e1 e3
  have hHas := (row_has h.1 rfl).2
  have hl : ((q.map Prod.fst).set x nd').length = n := by rw [List.length_set, List.length_map]; exact e2.symm
  refine ⟨some ⟨b, 0, none⟩, c, by rw [hl], by rw [hl]; omega, q2, fun _ => ⟨b, 0, rfl, by simpa using hgl, fun i y hy => ?_⟩, fun y hy => ?_⟩
  · have hin : ∀ p ∈ q, IntsIn (w.setCell ⟨b, x * 5 + f, none⟩ (fieldV nd' f)) (w.setCell ⟨b, x * 5 + f, none⟩ (fieldV nd' f)).heap.size p.2 p.1.kids := fun p hp => by
      have h0 : OwnI (w.setCell ⟨b, x * 5 + f, none⟩ (fieldV nd' f)) base p.2 p.1.kids := row_keep (h.2.1 p hp) fun k hk => Below.heap_setCell w ⟨b, x * 5 + f, none⟩ _ k fun e => by
        have e : k = b := e
        subst e
        obtain ⟨_, cur, hh⟩ := row_has (h.2.1 p hp) hk
        obtain ⟨cur2, h2⟩ := hHas
        exact absurd (hh.type_eq h2) (by decide)
      exact (h0.ints ((hS.2 p.1 (List.mem_map_of_mem hp)).ok).2).1
    have hcell : ∀ o, o ≠ x * 5 + f → (w.setCell ⟨b, x * 5 + f, none⟩ (fieldV nd' f)).cell? ⟨b, o, none⟩ = w.cell? ⟨b, o, none⟩ := fun o ho => World.cell?_setCell_other w _ _ _ (fun e => ho (by have h := congrArg Addr.off e; dsimp only at h; omega))
    obtain ⟨cur, hcur⟩ := hHas
    have hself : x * 5 + f < cur.size → (w.setCell ⟨b, x * 5 + f, none⟩ (fieldV nd' f)).cell? ⟨b, x * 5 + f, none⟩ = some (fieldV nd' f) := fun hlt => by
      rw [(hcur.set (x * 5 + f) (fieldV nd' f)).cell, Array.getElem?_setIfInBounds_self_of_lt hlt]
    have hi : i < q.length := by
      have := (List.getElem?_eq_some_iff.1 hy).1
      simpa using this
    obtain ⟨p, hp⟩ : ∃ p, q[i]? = some p := ⟨q[i], List.getElem?_eq_getElem hi⟩
    obtain ⟨g0, g1, g2, g3, g4⟩ := nodeCells_get hp
    have k0 := hc _ _ g0
    have k1 := hc _ _ g1
    have k2 := hc _ _ g2
    have k3 := hc _ _ g3
    have k4 := hc _ _ g4
    simp only [Nat.zero_add]
    by_cases hxi : i = x
    · subst hxi
      rw [List.getElem?_set_self (by simpa using hi)] at hy
      obtain rfl := Option.some.inj hy
      have hpn : p.1 = nd := by
        rw [List.getElem?_map, hp] at hx
        exact Option.some.inj hx
      have hlt : i * 5 + f < cur.size := by
        have hz : (w.cell? ⟨b, i * 5 + 4, none⟩).isSome := by rw [k4]; rfl
        rw [hcur.cell] at hz
        by_cases h5 : i * 5 + 4 < cur.size
        · omega
        · rw [Array.getElem?_eq_none (by omega)] at hz; cases hz
      have hfield : ∀ j, j < 4 → w.cell? ⟨b, i * 5 + j, none⟩ = some (fieldV nd j) → (w.setCell ⟨b, i * 5 + f, none⟩ (fieldV nd' f)).cell? ⟨b, i * 5 + j, none⟩ = some (fieldV nd' j) := fun j hj hold => by
        by_cases e : j = f
        · subst e; exact hself hlt
        · rw [hcell _ (by omega), hold, hs j hj e]
      rw [hpn] at k0 k1 k2 k3
      have hp4 := hin p (List.mem_of_getElem? hp)
      rw [hpn, ← hk] at hp4
      exact ⟨p.2, hfield 0 (by omega) k0, hfield 1 (by omega) k1, hfield 2 (by omega) k2, hfield 3 (by omega) k3, (hcell _ (by omega)).trans k4, hp4⟩
    · rw [List.getElem?_set_ne (fun e => hxi e.symm), List.getElem?_map, hp] at hy
      obtain rfl := Option.some.inj hy
      have hne : ∀ j, j < 5 → i * 5 + j ≠ x * 5 + f := fun j hj e => hxi (by omega)
      exact ⟨p.2, (hcell _ (hne 0 (by omega))).trans k0, (hcell _ (hne 1 (by omega))).trans k1, (hcell _ (hne 2 (by omega))).trans k2, (hcell _ (hne 3 (by omega))).trans k3, (hcell _ (hne 4 (by omega))).trans k4, hin p (List.mem_of_getElem? hp)⟩
  · rcases List.mem_or_eq_of_mem_set hy with hy | rfl
    · exact (hS.2 y hy).ok.1
    · exact hS'.ok.1
end Go.Proofs.YtlabmboedjnpmaaGreatDoor
/-! LevelOf -/
namespace Go.Proofs.YtlabmboedjnpmaaGreatDoor
open Go.RowKit
set_option linter.unusedVariables false

def levelOf (k o : Int) : Int :=
  if k = 15 then 1 else if k = 14 then 2 else if k = 13 then 5 else if k = 12 then opLevel o else if k = 11 then 11 else if k = 9 ∨ k = 10 then 13 else if k = 6 then 14
  else if k = 1 ∨ k = 2 ∨ k = 3 ∨ k = 4 ∨ k = 5 ∨ k = 7 ∨ k = 8 then 15 else 0
set_option maxRecDepth 100000 in
set_option maxHeartbeats 1000000 in
theorem i_levelOf (k o : Int) (t u : ByteArray) (A : Option Addr) (n c : Nat) (w : World) : Calls Tryz.prog 10 #[.agg #[.int .i64 k, .int .i64 o, .string t, .string u, .slice A n c]] w (RetInt w (levelOf k o)) := by
  go_enter Tryz.func10, Tryz.ntmps10
  go_wp2_with (go_at_call 32; refine (i_opLevel _ _).mono ?_; rintro e w' ⟨rfl, rfl⟩)
  all_goals (go_ret; refine ⟨ret_int ?_, (Below.refl _ _).alloc (Nat.le_refl _) _⟩; simp_all [levelOf])
end Go.Proofs.YtlabmboedjnpmaaGreatDoor
/-! RightsPure -/
namespace Go.Proofs.YtlabmboedjnpmaaGreatDoor
open Go.RowKit
set_option linter.unusedVariables false
theorem opLevel_nn (o : Int) : 0 ≤ opLevel o := by
  unfold opLevel
  repeat' split
  all_goals omega
theorem level_expr {k o : Int} {t u : ByteArray} {m : Int} (h : fieldsB k o t u m = true) : decide (0 < levelOf k o) = isExprB k := by
  unfold fieldsB at h
  simp only [Bool.and_eq_true] at h
  obtain ⟨⟨⟨hk, ho⟩, _⟩, _⟩ := h
  have hn := opLevel_nn o
  revert ho
  refine known_cases (P := fun k => opOkB k o = true → decide (0 < levelOf k o) = isExprB k) hk ?_ ?_ ?_ ?_ ?_ ?_ ?_ ?_ ?_ ?_ ?_ ?_ ?_ ?_ ?_ ?_ ?_ ?_ ?_ ?_ ?_ ?_ ?_ ?_ ?_ ?_ ?_ ?_ ?_ ?_ ?_ ?_ ?_ ?_ ?_ ?_ ?_
  case refine_12 =>
    intro h
    have h : (opLevel o != 0) = true := h
    have h2 : opLevel o ≠ 0 := by simpa using h
    have e : levelOf 12 o = opLevel o := rfl
    rw [e, decide_eq_true (by omega : 0 < opLevel o)]
    rfl
  all_goals
    intro _
    rfl
theorem part_bulk {l : List PNode} (h : SmallT l) (a i : Nat) : nodesBulk (partL l a i) ≤ 1048576 := by
  have key : ∀ (l : List PNode), (∀ nd ∈ l, nd.text.size ≤ 16 ∧ nd.other.size ≤ 16 ∧ nd.kids.length ≤ 9) → bulkSum l ≤ l.length * 41 := by
    intro l
    induction l with
    | nil => intro _; exact Nat.le_refl _
    | cons x r ih =>
      intro h
      have h1 := h x (List.mem_cons_self ..)
      have h2 := ih fun y hy => h y (List.mem_cons_of_mem _ hy)
      simp only [bulkSum, nodeBulk, List.length_cons]
      omega
  have h1 := key (partL l a i) fun nd hnd => by
    obtain ⟨nd0, h0, rfl⟩ := List.mem_map.1 hnd
    have hs := h.2 nd0 (List.mem_of_mem_take (List.mem_of_mem_drop h0))
    exact ⟨hs.text, hs.other, by show (nd0.kids.map _).length ≤ 9; rw [List.length_map]; exact hs.few⟩
  have h2 := h.1
  have h3 : (partL l a i).length ≤ l.length := by
    unfold partL
    rw [List.length_map, List.length_drop, List.length_take]
    omega
  unfold nodesBulk
  omega
/-- what the law asks of node i of a valid tree -/
theorem tree_node {l : List PNode} (h : treeB l = true) {i : Nat} {nd : PNode} (hi : l[i]? = some nd) : fieldsB nd.kind nd.op nd.text nd.other nd.kids.length = true := by
  unfold treeB at h
  simp only [Bool.and_eq_true, decide_eq_true_eq] at h
  have := List.all_eq_true.1 h.2 nd (List.mem_of_getElem? hi)
  unfold nodeOkB at this
  rw [Bool.and_eq_true] at this
  exact this.1
end Go.Proofs.YtlabmboedjnpmaaGreatDoor
/-! BentMem -/
namespace Go.Proofs.YtlabmboedjnpmaaGreatDoor
open Go.RowKit
set_option linter.unusedVariables false
theorem nodeCells_of_snd : ∀ {a b : List (PNode × Value)}, a.map Prod.snd = b.map Prod.snd → (∀ (i : Nat) (p p' : PNode × Value), a[i]? = some p → b[i]? = some p' → p.1.kind = p'.1.kind ∧ p.1.op = p'.1.op ∧ p.1.text = p'.1.text ∧ p.1.other = p'.1.other) → nodeCells a = nodeCells b
  | [], [], _, _ => rfl
  | [], y :: b, h, _ => by cases h
  | x :: a, [], h, _ => by cases h
  | x :: a, y :: b, h, hf => by
    simp only [List.map_cons, List.cons.injEq] at h
    obtain ⟨e0, e1, e2, e3⟩ := hf 0 x y rfl rfl
    simp only [nodeCells]
    rw [e0, e1, e2, e3, h.1, nodeCells_of_snd h.2 fun i p p' hp hp' => hf (i + 1) p p' (by simpa using hp) (by simpa using hp')]
theorem snd_set {q : List (PNode × Value)} {x : Nat} {p : PNode × Value} (hx : q[x]? = some p) (nd : PNode) : (q.set x (nd, p.2)).map Prod.snd = q.map Prod.snd := by
  apply List.ext_getElem?
  intro i
  rw [List.getElem?_map, List.getElem?_map]
  by_cases e : i = x
  · subst e
    have hi := (List.getElem?_eq_some_iff.1 hx).1
    rw [List.getElem?_set_self hi, hx]
    rfl
  · rw [List.getElem?_set_ne (fun h => e h.symm)]
theorem pair_snd {q : List (PNode × Value)} : (q.Pairwise fun x y => Apart x.2 y.2) ↔ (q.map Prod.snd).Pairwise Apart := by rw [List.pairwise_map]
theorem apart_at {q : List (PNode × Value)} (h : q.Pairwise fun x y => Apart x.2 y.2) {i j : Nat} {a b : PNode × Value} (hi : q[i]? = some a) (hj : q[j]? = some b) (hne : i ≠ j) : Apart a.2 b.2 := by
  obtain ⟨h1, e1⟩ := List.getElem?_eq_some_iff.1 hi
  obtain ⟨h2, e2⟩ := List.getElem?_eq_some_iff.1 hj
  rcases Nat.lt_or_gt_of_ne hne with hl | hl
  · have := List.pairwise_iff_getElem.1 h i j h1 h2 hl
    rw [e1, e2] at this
    exact this
  · have := List.pairwise_iff_getElem.1 h j i h2 h1 hl
    rw [e1, e2] at this
    exact this.symm
/-- a kid of a node of the list has been stored -/
theorem OwnQ.setKid {w : World} {base : Nat} {v : Value} {q : List (PNode × Value)} (h : OwnQ w base v q) {x : Nat} {p : PNode × Value} (hx : q[x]? = some p) {kb n c : Nat} (hp : p.2 = .slice (some ⟨kb, 0, none⟩) n c) (j : Nat) (y : Int) :
    OwnQ (w.setCell ⟨kb, j, none⟩ (.int .i64 y)) base v (q.set x ({ p.1 with kids := p.1.kids.set j y }, p.2)) := by
  have hI := h.2.1 p (List.mem_of_getElem? hx)
  have hkb : p.2.ownBlock = some kb := by rw [hp]; rfl
  obtain ⟨_, cur, hcur⟩ := row_has hI hkb
  refine ⟨?_, fun a ha => ?_, pair_snd.2 (by rw [snd_set hx]; exact pair_snd.1 h.2.2)⟩
  · rw [List.length_set, nodeCells_of_snd (snd_set hx _) fun i a b ha hb => by
      by_cases e : i = x
      · subst e
        rw [List.getElem?_set_self (List.getElem?_eq_some_iff.1 hx).1] at ha
        obtain rfl := Option.some.inj ha
        rw [hx] at hb
        obtain rfl := Option.some.inj hb
        exact ⟨rfl, rfl, rfl, rfl⟩
      · rw [List.getElem?_set_ne (fun h => e h.symm), hb] at ha
        obtain rfl := Option.some.inj ha
        exact ⟨rfl, rfl, rfl, rfl⟩]
    exact row_keep h.1 fun k hk => Below.heap_setCell w ⟨kb, j, none⟩ _ k fun e => by
      have e : k = kb := e
      subst e
      obtain ⟨_, cur2, h2⟩ := row_has h.1 hk
      exact absurd (hcur.type_eq h2) (by decide)
  · obtain ⟨i, hi⟩ := List.getElem?_of_mem ha
    by_cases e : i = x
    · subst e
      rw [List.getElem?_set_self (List.getElem?_eq_some_iff.1 hx).1] at hi
      obtain rfl := Option.some.inj hi
      dsimp only
      unfold OwnI at hI ⊢
      have hn : p.1.kids.length = n := by
        rcases hI.2 with ⟨e, _⟩ | ⟨g, cap, _, e, _⟩
        · rw [hp] at e; cases e
        · rw [hp] at e
          injection e with _ e2 _
          exact e2.symm
      rw [hp, hn] at hI
      rw [List.length_set, hp, hn, List.map_set]
      exact (hI.stored j _).1
    · rw [List.getElem?_set_ne (fun h => e h.symm)] at hi
      exact row_keep (h.2.1 a (List.mem_of_getElem? hi)) fun k hk => Below.heap_setCell w ⟨kb, j, none⟩ _ k fun e' => by
        have e' : k = kb := e'
        subst e'
        exact apart_at h.2.2 hi hx e k hk hkb
theorem nodeCells_set : ∀ {q : List (PNode × Value)} {x : Nat} {p : PNode × Value} (nd : PNode) (v' : Value), q[x]? = some p → nd.kind = p.1.kind → nd.op = p.1.op → nd.text = p.1.text → nd.other = p.1.other → nodeCells (q.set x (nd, v')) = (nodeCells q).set (x * 5 + 4) v'
  | [], _, _, _, _, h, _, _, _, _ => by simp at h
  | u :: q, 0, p, nd, v', h, h0, h1, h2, h3 => by
    simp only [List.getElem?_cons_zero, Option.some.injEq] at h
    subst h
    simp only [List.set_cons_zero, nodeCells, h0, h1, h2, h3]
    rfl
  | u :: q, x + 1, p, nd, v', h, h0, h1, h2, h3 => by
    rw [List.getElem?_cons_succ] at h
    simp only [List.set_cons_succ, nodeCells, nodeCells_set nd v' h h0 h1 h2 h3]
    rw [show (x + 1) * 5 = x * 5 + 4 + 1 by omega]
    simp only [List.set_cons_succ]
/-- the kids of a node of the list have been written anew -/
theorem OwnQ.putKids {w w1 : World} {base b n c : Nat} {q : List (PNode × Value)} (h : OwnQ w base (.slice (some ⟨b, 0, none⟩) n c) q) {x : Nat} {p : PNode × Value} (hx : q[x]? = some p) {v' : Value} {ks : List Int} (hv : OwnI w1 base v' ks) (hg : w.grownBy w1 p.2.ownBlock) (hat : v'.ownBlock = p.2.ownBlock ∨ v'.ownBlock = some w.heap.size ∨ v'.ownBlock = none) :
    OwnQ (w1.setCell ⟨b, x * 5 + 4, none⟩ v') base (.slice (some ⟨b, 0, none⟩) n c) (q.set x ({ p.1 with kids := ks }, v')) := by
  have hI := h.2.1 p (List.mem_of_getElem? hx)
  obtain ⟨_, cur, hcur⟩ := row_has h.1 rfl
  have hnk : ∀ a ∈ q, ∀ k, a.2.ownBlock = some k → k ≠ b := fun a ha k hk e => by
    subst e
    obtain ⟨_, cur2, h2⟩ := row_has (h.2.1 a ha) hk
    exact absurd (hcur.type_eq h2) (by decide)
  have hb1 : w1.heap[b]? = w.heap[b]? := hg.block b hcur.lt fun e => hnk p (List.mem_of_getElem? hx) b e.symm rfl
  have hmain : w1.ownsRow base 30 5 (.slice (some ⟨b, 0, none⟩) n c) q.length (nodeCells q) := row_keep h.1 fun k hk => by
    obtain rfl := Option.some.inj hk
    exact hb1
  have hvb : ∀ k, v'.ownBlock = some k → k ≠ b := fun k hk e => by
    subst e
    obtain ⟨_, cur2, h2⟩ := row_has hv hk
    obtain ⟨_, cur3, h3⟩ := row_has hmain rfl
    exact absurd (h3.type_eq h2) (by decide)
  have hn : q.length = n := by
    rcases h.1.2 with ⟨e, _⟩ | ⟨g, cap, _, e, _⟩
    · cases e
    · injection e with _ e2 _
      exact e2.symm
  have hxl := (List.getElem?_eq_some_iff.1 hx).1
  have hap : ∀ i a, q[i]? = some a → i ≠ x → Apart a.2 v' := fun i a hi hne k hk hv' => by
    rcases hat with e | e | e
    · rw [e] at hv'
      exact apart_at h.2.2 hi hx hne k hk hv'
    · rw [e] at hv'
      have h1 := Option.some.inj hv'
      have h2 := (World.ownsRow.lt (h.2.1 a (List.mem_of_getElem? hi)) k hk).2
      omega
    · rw [e] at hv'
      cases hv'
  refine ⟨?_, fun a ha => ?_, ?_⟩
  · rw [List.length_set, nodeCells_set (nd := { p.1 with kids := ks }) v' hx rfl rfl rfl rfl]
    rw [hn] at hmain ⊢
    exact (hmain.stored (x * 5 + 4) v').1
  · obtain ⟨i, hi⟩ := List.getElem?_of_mem ha
    by_cases e : i = x
    · subst e
      rw [List.getElem?_set_self hxl] at hi
      obtain rfl := Option.some.inj hi
      exact row_keep hv fun k hk => Below.heap_setCell w1 ⟨b, i * 5 + 4, none⟩ _ k (hvb k hk)
    · rw [List.getElem?_set_ne (fun h => e h.symm)] at hi
      have ham := List.mem_of_getElem? hi
      have h1 : OwnI w1 base a.2 a.1.kids := row_keep (h.2.1 a ham) fun k hk => hg.block k (World.ownsRow.lt (h.2.1 a ham) k hk).2 fun e' => apart_at h.2.2 hi hx e k hk e'.symm
      exact row_keep h1 fun k hk => Below.heap_setCell w1 ⟨b, x * 5 + 4, none⟩ _ k (hnk a ham k hk)
  · rw [List.pairwise_iff_getElem]
    intro i j hi hj hij
    rw [List.length_set] at hi hj
    have gi : q[i]? = some q[i] := List.getElem?_eq_getElem hi
    have gj : q[j]? = some q[j] := List.getElem?_eq_getElem hj
    rw [List.getElem_set, List.getElem_set]
    split
    · rename_i e
      rw [if_neg (by omega)]
      exact (hap j _ gj (by omega)).symm
    · split
      · exact hap i _ gi (by omega)
      · exact List.pairwise_iff_getElem.1 h.2.2 i j hi hj hij
end Go.Proofs.YtlabmboedjnpmaaGreatDoor
/-! BentRow -/
namespace Go.Proofs.YtlabmboedjnpmaaGreatDoor
open Go.RowKit
set_option linter.unusedVariables false
/-- nodes in a row, each kid's slice of the call's own (shared or not) -/
theorem nodes_of_row {w : World} {base : Nat} {v : Value} {q : List (PNode × Value)} (h : w.ownsRow base 30 5 v q.length (nodeCells q)) (hk : ∀ p ∈ q, OwnI w base p.2 p.1.kids) (hS : SmallT (q.map Prod.fst)) : NodesIn w w.heap.size v (q.map Prod.fst) := by
  rcases row_open h with ⟨rfl, h0⟩ | ⟨g, cap, rfl, hb, hg, q1, q2, hc⟩
  · have e := List.eq_nil_of_length_eq_zero h0
    subst e
    exact ⟨none, 0, rfl, Nat.le_refl _, Nat.zero_le _, fun h => absurd h (by simp), fun nd hn => (List.not_mem_nil hn).elim⟩
  · refine ⟨some ⟨g, 0, none⟩, cap, by rw [List.length_map], by rw [List.length_map]; exact q1, q2, fun _ => ⟨g, 0, rfl, hg, fun i nd hx => ?_⟩, fun nd hn => (hS.2 nd hn).ok.1⟩
    rw [List.getElem?_map] at hx
    cases hp : q[i]? with
    | none => rw [hp] at hx; cases hx
    | some p =>
      rw [hp] at hx
      obtain rfl := Option.some.inj hx
      have hm := List.mem_of_getElem? hp
      obtain ⟨e0, e1, e2, e3, e4⟩ := nodeCells_get hp
      simp only [Nat.zero_add]
      exact ⟨p.2, hc _ _ e0, hc _ _ e1, hc _ _ e2, hc _ _ e3, hc _ _ e4, ((hk p hm).ints ((hS.2 p.1 (List.mem_map_of_mem hm)).ok).2).1⟩
theorem OwnQ.small {w : World} {base : Nat} {v : Value} {q : List (PNode × Value)} (h : OwnQ w base v q) (hS : SmallT (q.map Prod.fst)) : NodesIn w w.heap.size v (q.map Prod.fst) := nodes_of_row h.1 h.2.1 hS
theorem OwnN.small {w : World} {base : Nat} {v : Value} {l : List PNode} (h : OwnN w base v l) (hS : SmallT l) : NodesIn w w.heap.size v l := by
  obtain ⟨q, rfl, h⟩ := h
  exact h.small hS
/-- what is left of a draw of a tree that may have been bent -/
def RetS (w : World) (g : Nat) (e : Ending) (w' : World) : Prop := ∃ A n c l, e = .returned (.slice A n c) ∧ NodesIn w' w'.heap.size (.slice A n c) l ∧ SmallT l ∧ Away g w w'
/-- the first nodes alone -/
theorem NodesIn.first {w : World} {B : Nat} {l : List PNode} {b n c : Nat} (h : NodesIn w B (.slice (some ⟨b, 0, none⟩) n c) l) {k : Nat} (hk : k ≤ n) : NodesIn w B (.slice (some ⟨b, 0, none⟩) k c) (l.take k) := by
  obtain ⟨A', c', ev, h1, h2, h3, h4⟩ := h
  injection ev with e1 e2 e3
  subst e1 e3
  subst e2
  have hl : (l.take k).length = k := by rw [List.length_take]; omega
  refine ⟨some ⟨b, 0, none⟩, c, by rw [hl], by rw [hl]; omega, h2, fun hp => ?_, fun nd hn => h4 nd (List.mem_of_mem_take hn)⟩
  rw [hl] at hp
  obtain ⟨b', off', hA', hlt, hc⟩ := h3 (by omega)
  refine ⟨b', off', hA', hlt, fun i nd hx => ?_⟩
  have hi : i < k := by have := (List.getElem?_eq_some_iff.1 hx).1; rw [hl] at this; exact this
  rw [List.getElem?_take_of_lt hi] at hx
  exact hc i nd hx
theorem map_fst_set (q : List (PNode × Value)) (x : Nat) (p : PNode × Value) : (q.set x p).map Prod.fst = (q.map Prod.fst).set x p.1 := by rw [List.map_set]
/-- a kid has been appended to node x: what holds then -/
theorem bent_app {wr w2 : World} {base b n c x g2 cap2 kn kc : Nat} {K : Option Addr} {q : List (PNode × Value)} {p : PNode × Value} {y : Int} (hQ : OwnQ wr base (.slice (some ⟨b, 0, none⟩) n c) q) (hbase : base ≤ wr.heap.size) (hx : q[x]? = some p) (hn : p.1.kids.length = kn) (hp2 : p.2 = .slice K kn kc)
    (hrow2 : w2.ownsRow base 3 1 (.slice (some ⟨g2, 0, none⟩) (kn + 1) cap2) (kn + 1) ((p.1.kids.map fun k => Value.int .i64 k) ++ [.int .i64 y])) (hgrow : (wr.alloc (.cells #[.int .i64 y] 3)).grownBy w2 (Value.slice K kn kc).ownBlock) (hat : (Value.slice K kn kc).ownBlock = some g2 ∨ g2 = wr.heap.size + 1)
    (hG : GoodT (q.map Prod.fst)) (hN : n = q.length) (hl : n ≤ 1000) (hy : -1 ≤ y ∧ y ≤ 1000) :
    NodesIn (w2.setCell ⟨b, x * 5 + 4, none⟩ (.slice (some ⟨g2, 0, none⟩) (kn + 1) cap2)) (w2.setCell ⟨b, x * 5 + 4, none⟩ (.slice (some ⟨g2, 0, none⟩) (kn + 1) cap2)).heap.size (.slice (some ⟨b, 0, none⟩) n c) ((q.map Prod.fst).set x { p.1 with kids := p.1.kids ++ [y] }) ∧
    SmallT ((q.map Prod.fst).set x { p.1 with kids := p.1.kids ++ [y] }) ∧ Below base wr (w2.setCell ⟨b, x * 5 + 4, none⟩ (.slice (some ⟨g2, 0, none⟩) (kn + 1) cap2)) := by
  have hown2 : OwnI w2 base (.slice (some ⟨g2, 0, none⟩) (kn + 1) cap2) (p.1.kids ++ [y]) := by
    unfold OwnI
    rw [List.length_append, List.map_append, hn]
    exact hrow2
  rw [← hp2] at hgrow hat
  have hS := hG.smallT (by rw [List.length_map, ← hN]; exact hl)
  have hp := hG p.1 (List.mem_map_of_mem (List.mem_of_getElem? hx))
  rw [List.length_map, ← hN] at hp
  have hnew : SmallN { p.1 with kids := p.1.kids ++ [y] } := by
    have h0 := hp.smallN hl
    refine ⟨h0.kind, h0.op, h0.text, h0.other, ?_, fun k hk => ?_⟩
    · show (p.1.kids ++ [y]).length ≤ 9
      rw [List.length_append]
      have := hp.few
      show p.1.kids.length + 1 ≤ 9
      omega
    · rcases List.mem_append.1 hk with hk | hk
      · exact h0.kids k hk
      · obtain rfl := List.mem_singleton.1 hk
        exact hy
  have hS2 := hS.set (x := x) hnew
  have hQ2 := (hQ.alloc (.cells #[.int .i64 y] 3)).putKids hx hown2 hgrow (by
    rcases hat with h | h
    · exact .inl h.symm
    · exact .inr (.inl (by rw [h, World.size_alloc]; rfl)))
  have hb0 := (row_has hQ.1 rfl).1
  refine ⟨?_, hS2, ?_⟩
  · have := hQ2.small (by rw [map_fst_set]; exact hS2)
    rw [map_fst_set] at this
    exact this
  · refine Below.setCell ?_ (p := ⟨b, x * 5 + 4, none⟩) hb0 _
    refine (((Below.refl base wr).alloc hbase _).grown hgrow (by simp; omega) fun r hr => ?_)
    exact ((World.ownsRow.lt (hQ.2.1 p (List.mem_of_getElem? hx)) r hr)).1
/-- the first kid of node x has been stored: what holds then -/
theorem bent_set {w : World} {base b n c x kb kn kc : Nat} {q : List (PNode × Value)} {p : PNode × Value} {y : Int} (hQ : OwnQ w base (.slice (some ⟨b, 0, none⟩) n c) q) (hx : q[x]? = some p) (hp2 : p.2 = .slice (some ⟨kb, 0, none⟩) kn kc)
    (hG : GoodT (q.map Prod.fst)) (hN : n = q.length) (hl : n ≤ 1000) (hy : -1 ≤ y ∧ y ≤ 1000) :
    NodesIn (w.setCell ⟨kb, 0, none⟩ (.int .i64 y)) (w.setCell ⟨kb, 0, none⟩ (.int .i64 y)).heap.size (.slice (some ⟨b, 0, none⟩) n c) ((q.map Prod.fst).set x { p.1 with kids := p.1.kids.set 0 y }) ∧
    SmallT ((q.map Prod.fst).set x { p.1 with kids := p.1.kids.set 0 y }) ∧ Below base w (w.setCell ⟨kb, 0, none⟩ (.int .i64 y)) := by
  have hS := hG.smallT (by rw [List.length_map, ← hN]; exact hl)
  have hp := hG p.1 (List.mem_map_of_mem (List.mem_of_getElem? hx))
  rw [List.length_map, ← hN] at hp
  have hnew : SmallN { p.1 with kids := p.1.kids.set 0 y } := by
    have h0 := hp.smallN hl
    refine ⟨h0.kind, h0.op, h0.text, h0.other, ?_, fun k hk => ?_⟩
    · show (p.1.kids.set 0 y).length ≤ 9
      rw [List.length_set]
      have := hp.few
      omega
    · rcases List.mem_or_eq_of_mem_set hk with hk | rfl
      · exact h0.kids k hk
      · exact hy
  have hS2 := hS.set (x := x) hnew
  have hQ2 := hQ.setKid hx hp2 0 y
  refine ⟨?_, hS2, ?_⟩
  · have := hQ2.small (by rw [map_fst_set]; exact hS2)
    rw [map_fst_set] at this
    exact this
  · exact (Below.refl base w).setCell (p := ⟨kb, 0, none⟩) (row_has (hQ.2.1 p (List.mem_of_getElem? hx)) (k := kb) (by rw [hp2]; rfl)).1 _
/-- append of a list to itself -/
theorem app_self {ops : Array Oper} {rest : List Oper} {o : Oper} {a : Act} {Q : Exit → Act → World → Prop} {w : World} (hgd : o.guard = none) (s x : Operand)
    (ho : o.op = .call { callee := .builtin .append, args := #[s, x], argTypes := #[24, 24] }) (base b n c : Nat) (q : List (PNode × Value)) (hs : a.eval s = .slice (some ⟨b, 0, none⟩) n c) (hown : OwnQ w base (.slice (some ⟨b, 0, none⟩) n c) q)
    (hx : a.eval x = .slice (some ⟨b, 0, none⟩) n c) (hn : n = q.length) (hl : n ≤ 1000) (h0 : 0 < n) (hS : SmallT (q.map Prod.fst)) (hbase : base ≤ w.heap.size)
    (h : ∀ g cap w', NodesIn w' w'.heap.size (.slice (some ⟨g, 0, none⟩) (n + n) cap) (q.map Prod.fst ++ q.map Prod.fst) → SmallT (q.map Prod.fst ++ q.map Prod.fst) → Below base w w' → wpList Tryz.prog ops Q rest (a.put o.dst (.slice (some ⟨g, 0, none⟩) (n + n) cap)) w') : wpList Tryz.prog ops Q (o :: rest) a w := by
  obtain ⟨i0, hi, hz0, hz1, hz2⟩ := info_parts info_node
  have hrow := hown.1
  rw [← hn] at hrow
  rcases row_open hrow with ⟨e, _⟩ | ⟨b', cap, e, _, _, _, _, hc⟩
  · cases e
  injection e with e1 e2 e3
  injection e1 with e1
  injection e1 with e1
  subst e1
  have hS2 : SmallT (q.map Prod.fst ++ q.map Prod.fst) := ⟨by rw [List.length_append, List.length_map, ← hn]; omega, fun nd hnd => (List.mem_append.1 hnd).elim (hS.2 nd) (hS.2 nd)⟩
  refine wpList_append_own_at w hgd s x 24 ho base 30 i0 _ 5 72 Tryz.underlying24 hi hz0 hz1 hz2 rfl (by decide) _ n _ hs hrow ⟨b, 0, none⟩ n c (nodeCells q) hx (by rw [nodeCells_len, ← hn]) ?_ ?_ (by unfold maxLen; omega) (by omega) hbase ?_
  · intro j u hu
    have e : (⟨b, 0, none⟩ : Addr).add j = ⟨b, j, none⟩ := by unfold Addr.add; split <;> simp_all
    rw [e]
    exact hc j u hu
  · intro u hu
    rcases nodeCells_mem hu with ⟨p, hp, rfl⟩ | ⟨x, rfl⟩ | ⟨x, rfl⟩
    · exact row_one (hown.2.1 p hp)
    · rfl
    · rfl
  · intro v' w' h2 h3 h4 h5
    have hkeep : ∀ (kv : Value) (ks : List Int), OwnI w base kv ks → OwnI w' base kv ks := fun kv ks hk => row_keep hk fun k hv => h3.block k (World.ownsRow.lt hk k hv).2 fun e => by
      obtain ⟨_, cur, hh⟩ := row_has hk hv
      obtain ⟨_, cur2, hh2⟩ := row_has hown.1 e.symm
      exact absurd (hh.type_eq hh2) (by decide)
    have hb2 := (Below.refl base w).grown h3 hbase (fun k hk => (World.ownsRow.lt hown.1 k hk).1)
    rw [← nodeCells_app, show n + n = (q ++ q).length by rw [List.length_append, ← hn]] at h2
    have hN := nodes_of_row h2 (fun p hp => (List.mem_append.1 hp).elim (fun hp => hkeep _ _ (hown.2.1 p hp)) (fun hp => hkeep _ _ (hown.2.1 p hp))) (by rw [List.map_append]; exact hS2)
    rw [List.map_append] at hN
    rcases row_open h2 with ⟨_, e⟩ | ⟨g, cap', e, _⟩
    · rw [List.length_append] at e; omega
    · rw [List.length_append, ← hn] at e
      subst e
      exact h g cap' w' hN hS2 hb2
/-- what can be read of node x -/
theorem OwnQ.look {w : World} {base b n c x : Nat} {q : List (PNode × Value)} {p : PNode × Value} (h : OwnQ w base (.slice (some ⟨b, 0, none⟩) n c) q) (hx : q[x]? = some p) :
    (w.cell? ⟨b, x * 5, none⟩ = some (.int .i64 p.1.kind) ∧ w.cell? ⟨b, x * 5 + 1, none⟩ = some (.int .i64 p.1.op) ∧ w.cell? ⟨b, x * 5 + 2, none⟩ = some (.string p.1.text) ∧ w.cell? ⟨b, x * 5 + 3, none⟩ = some (.string p.1.other) ∧ w.cell? ⟨b, x * 5 + 4, none⟩ = some p.2) ∧
    (∀ o, w.frozen? ⟨b, o, none⟩ = false) ∧ b < w.heap.size ∧ base ≤ b ∧ n ≤ c ∧ c ≤ maxLen := by
  obtain ⟨hb, cur, hcur⟩ := row_has h.1 (k := b) rfl
  rcases row_open h.1 with ⟨e, _⟩ | ⟨b', cap, e, _, hlt, h1, h2, hc⟩
  · cases e
  injection e with e1 e2 e3
  injection e1 with e1
  injection e1 with e1
  subst e1
  subst e3
  rw [← e2] at h1
  obtain ⟨g0, g1, g2, g3, g4⟩ := nodeCells_get hx
  exact ⟨⟨hc _ _ g0, hc _ _ g1, hc _ _ g2, hc _ _ g3, hc _ _ g4⟩, hcur.free, hlt, hb, h1, h2⟩
/-- the slice of a node's kids -/
theorem OwnQ.kid_form {w : World} {base x : Nat} {v : Value} {q : List (PNode × Value)} {p : PNode × Value} (h : OwnQ w base v q) (hx : q[x]? = some p) : ∃ K kc, p.2 = .slice K p.1.kids.length kc := by
  rcases (h.2.1 p (List.mem_of_getElem? hx)).open with ⟨e1, e2⟩ | ⟨g, cap, e, _⟩
  · exact ⟨none, 0, by rw [e1, e2]; rfl⟩
  · exact ⟨_, _, e⟩
theorem OwnQ.kid_far {w : World} {base b n c x : Nat} {q : List (PNode × Value)} {p : PNode × Value} (h : OwnQ w base (.slice (some ⟨b, 0, none⟩) n c) q) (hx : q[x]? = some p) : p.2.ownBlock ≠ some b := fun e => by
  obtain ⟨_, cur, hh⟩ := row_has (h.2.1 p (List.mem_of_getElem? hx)) e
  obtain ⟨_, cur2, hh2⟩ := row_has h.1 (k := b) rfl
  exact absurd (hh.type_eq hh2) (by decide)
/-- the first kid of node x, as it lies -/
theorem OwnQ.kid_at {w : World} {base b n c x kb kn kc : Nat} {q : List (PNode × Value)} {p : PNode × Value} (h : OwnQ w base (.slice (some ⟨b, 0, none⟩) n c) q) (hx : q[x]? = some p) (hp2 : p.2 = .slice (some ⟨kb, 0, none⟩) kn kc) (h0 : 0 < kn) (hn : p.1.kids.length = kn) :
    (∃ y, w.cell? ⟨kb, 0, none⟩ = some (.int .i64 y)) ∧ w.frozen? ⟨kb, 0, none⟩ = false ∧ kb < w.heap.size := by
  have hI := h.2.1 p (List.mem_of_getElem? hx)
  obtain ⟨_, cur, hcur⟩ := row_has hI (k := kb) (by rw [hp2]; rfl)
  rcases hI.open with ⟨e, _⟩ | ⟨g, cap, e, _, hlt, _, _, hc⟩
  · rw [hp2] at e; cases e
  rw [hp2] at e
  injection e with e1 e2 e3
  injection e1 with e1
  injection e1 with e1
  subst e1
  obtain ⟨y, hy⟩ : ∃ y, p.1.kids[0]? = some y := ⟨p.1.kids[0]'(by omega), List.getElem?_eq_getElem _⟩
  exact ⟨⟨y, hc 0 y hy⟩, hcur.free 0, hlt⟩
theorem OwnQ.kid_some {w : World} {base x kn kc : Nat} {K : Option Addr} {v : Value} {q : List (PNode × Value)} {p : PNode × Value} (h : OwnQ w base v q) (hx : q[x]? = some p) (hp2 : p.2 = .slice K kn kc) (h0 : 0 < kn) (hn : p.1.kids.length = kn) : ∃ kb, K = some ⟨kb, 0, none⟩ := by
  rcases (h.2.1 p (List.mem_of_getElem? hx)).open with ⟨_, e⟩ | ⟨g, cap, e, _⟩
  · rw [e] at hn; simp at hn; omega
  · rw [hp2] at e
    injection e with e1 e2 e3
    exact ⟨g, e1⟩
/-- a field of node x has been stored: what holds then -/
theorem spoil {w : World} {base b n c x : Nat} {q : List (PNode × Value)} {p : PNode × Value} (hQ : OwnQ w base (.slice (some ⟨b, 0, none⟩) n c) q) (hx : q[x]? = some p) (hG : GoodT (q.map Prod.fst)) (hN : n = q.length) (hl : n ≤ 1000)
    (f : Nat) (nd' : PNode) (hf : f < 4) (hk : nd'.kids = p.1.kids) (hs : ∀ j, j < 4 → j ≠ f → fieldV nd' j = fieldV p.1 j) (hS' : SmallN p.1 → SmallN nd') :
    NodesIn (w.setCell ⟨b, x * 5 + f, none⟩ (fieldV nd' f)) (w.setCell ⟨b, x * 5 + f, none⟩ (fieldV nd' f)).heap.size (.slice (some ⟨b, 0, none⟩) n c) ((q.map Prod.fst).set x nd') ∧
    SmallT ((q.map Prod.fst).set x nd') ∧ Below base w (w.setCell ⟨b, x * 5 + f, none⟩ (fieldV nd' f)) := by
  have hS := hG.smallT (by rw [List.length_map, ← hN]; exact hl)
  have hnew := hS' (hS.2 p.1 (List.mem_map_of_mem (List.mem_of_getElem? hx)))
  refine ⟨OwnN.put ⟨q, rfl, hQ⟩ (by rw [List.getElem?_map, hx]; rfl) hf hk hs hS hnew, hS.set hnew, ?_⟩
  exact (Below.refl base w).setCell (p := ⟨b, x * 5 + f, none⟩) (row_has hQ.1 (k := b) rfl).1 _
theorem four {P : Nat → Prop} {f : Nat} (h0 : 0 ≠ f → P 0) (h1 : 1 ≠ f → P 1) (h2 : 2 ≠ f → P 2) (h3 : 3 ≠ f → P 3) : ∀ j, j < 4 → j ≠ f → P j
  | 0, _, h => h0 h
  | 1, _, h => h1 h
  | 2, _, h => h2 h
  | 3, _, h => h3 h
  | j + 4, h, _ => absurd h (by omega)
end Go.Proofs.YtlabmboedjnpmaaGreatDoor
