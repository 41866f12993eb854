/- Every part of a valid tree is a valid tree. No program is in sight here. -/
import Derived.Test.YtlabmboedjnpmaaGreatDoorLexR
namespace Go.Proofs.YtlabmboedjnpmaaGreatDoor
open Go.RowKit
set_option linter.unusedVariables false

theorem backK_more (st e : List Nat) (hL : Low st) : ∀ (ks : List Int) (at_ : Nat), at_ ≤ st.length → backK (st ++ e) ks at_ = backK st ks at_
  | [], _, _ => rfl
  | k :: r, at_, h => by
    rw [backK, backK]
    by_cases hc : at_ ≠ 0 ∧ k = (at_ : Int) - 1
    · rw [if_pos hc, if_pos hc]
      obtain ⟨x, hx, hg, hle⟩ := hL.get (j := at_ - 1) (by omega)
      have e1 : (st ++ e).getD (at_ - 1) 0 = x := by
        rw [List.getD_eq_getElem?_getD, List.getElem?_append_left (by omega), hx]
        rfl
      rw [e1, hg]
      exact backK_more st e hL r x (by omega)
    · rw [if_neg hc, if_neg hc]
/-- where the parts begin, node by node -/
theorem startsF_all : ∀ (l : List PNode) (done s : List Nat), Low done → startsF l done = some s → ∃ e, s = done ++ e ∧ ∀ (i : Nat) (nd : PNode), l[i]? = some nd → backK s nd.kids.reverse (done.length + i) = some (s.getD (done.length + i) 0)
  | [], done, s, _, h => by
    simp [startsF] at h
    subst h
    exact ⟨[], by simp, fun i nd hi => by simp at hi⟩
  | x :: r, done, s, hL, h => by
    rw [startsF] at h
    cases hb : backK done x.kids.reverse done.length with
    | none => rw [hb] at h; cases h
    | some a =>
      rw [hb] at h
      have hL2 := hL.snoc (backK_le hL _ _ _ (Nat.le_refl _) hb)
      obtain ⟨e, he, hi⟩ := startsF_all r (done ++ [a]) s hL2 h
      refine ⟨[a] ++ e, by rw [he, List.append_assoc], fun i nd hnd => ?_⟩
      cases i with
      | zero =>
        simp at hnd
        subst hnd
        rw [Nat.add_zero]
        have e2 : s.getD done.length 0 = a := by
          rw [he, List.append_assoc, List.getD_eq_getElem?_getD, List.getElem?_append_right (Nat.le_refl _)]
          simp
        rw [e2, he, List.append_assoc, backK_more done _ hL _ _ (Nat.le_refl _), hb]
      | succ i =>
        have := hi i nd (by simpa using hnd)
        have e3 : (done ++ [a]).length + i = done.length + (i + 1) := by simp; omega
        rw [e3] at this
        exact this
theorem starts_at {l : List PNode} {s : List Nat} (h : startsL l = some s) {i : Nat} {nd : PNode} (hi : l[i]? = some nd) : backK s nd.kids.reverse i = some (s.getD i 0) := by
  obtain ⟨e, he, hall⟩ := startsF_all l [] s Low.nil h
  simpa using hall i nd hi
/-- and back -/
theorem startsF_of : ∀ (l : List PNode) (done s : List Nat), Low s → s.length = done.length + l.length → done = s.take done.length → (∀ (i : Nat) (nd : PNode), l[i]? = some nd → backK s nd.kids.reverse (done.length + i) = some (s.getD (done.length + i) 0)) → startsF l done = some s
  | [], done, s, _, hl, hd, _ => by
    have : s.take done.length = s := List.take_of_length_le (by simp at hl; omega)
    rw [startsF, hd, this]
  | x :: r, done, s, hL, hl, hd, h => by
    have h0 := h 0 x rfl
    rw [Nat.add_zero] at h0
    have hlen : done.length < s.length := by simp at hl; omega
    have hsplit : s = done ++ s.drop done.length := by
      conv => lhs; rw [← List.take_append_drop done.length s]
      rw [← hd]
    have hLd : Low done := fun j x hx => hL j x (by rw [hsplit, List.getElem?_append_left (List.getElem?_eq_some_iff.1 hx).1]; exact hx)
    have hb : backK done x.kids.reverse done.length = some (s.getD done.length 0) := by
      rw [← h0]
      conv => rhs; rw [hsplit]
      exact (backK_more done _ hLd _ _ (Nat.le_refl _)).symm
    rw [startsF, hb]
    refine startsF_of r (done ++ [s.getD done.length 0]) s hL (by simp at hl ⊢; omega) ?_ fun i nd hi => ?_
    · rw [List.length_append]
      show _ = s.take (done.length + 1)
      rw [List.take_add_one, ← hd, List.getD_eq_getElem?_getD, List.getElem?_eq_getElem hlen]
      rfl
    · have := h (i + 1) nd (by simpa using hi)
      have e3 : (done ++ [s.getD done.length 0]).length + i = done.length + (i + 1) := by simp; omega
      rw [e3]
      exact this
theorem starts_of {l : List PNode} {s : List Nat} (hL : Low s) (hl : s.length = l.length) (h : ∀ (i : Nat) (nd : PNode), l[i]? = some nd → backK s nd.kids.reverse i = some (s.getD i 0)) : startsL l = some s :=
  startsF_of l [] s hL (by simpa using hl) (by simp) (by simpa using h)
/-- the parts of the kids lie side by side -/
theorem backK_tile {st : List Nat} (hL : Low st) : ∀ (ks : List Int) (at_ a : Nat), at_ ≤ st.length → backK st ks at_ = some a → ∀ j, a ≤ j → j < at_ → ∃ k : Nat, (k : Int) ∈ ks ∧ k < at_ ∧ st.getD k 0 ≤ j ∧ j ≤ k ∧ a ≤ st.getD k 0
  | [], at_, a, _, e, j, h1, h2 => by simp [backK] at e; omega
  | k :: r, at_, a, hl, e, j, h1, h2 => by
    rw [backK] at e
    by_cases hc : at_ ≠ 0 ∧ k = (at_ : Int) - 1
    · rw [if_pos hc] at e
      obtain ⟨x, hx, hg, hle⟩ := hL.get (j := at_ - 1) (by omega)
      rw [hg] at e
      have hax := backK_le hL r x a (by omega) e
      by_cases hj : j < x
      · obtain ⟨k', hk, h3, h4, h5, h6⟩ := backK_tile hL r x a (by omega) e j h1 hj
        exact ⟨k', List.mem_cons_of_mem _ hk, by omega, h4, h5, h6⟩
      · refine ⟨at_ - 1, ?_, by omega, by omega, by omega, by omega⟩
        rw [show ((at_ - 1 : Nat) : Int) = k by omega]
        exact List.mem_cons_self ..
    · rw [if_neg hc] at e; cases e
/-- a kid's part lies within -/
theorem backK_kid {st : List Nat} (hL : Low st) : ∀ (ks : List Int) (at_ a : Nat), at_ ≤ st.length → backK st ks at_ = some a → ∀ k ∈ ks, (a : Int) ≤ k
  | [], _, _, _, _, k, hk => (List.not_mem_nil hk).elim
  | x :: r, at_, a, hl, e, k, hk => by
    rw [backK] at e
    by_cases hc : at_ ≠ 0 ∧ x = (at_ : Int) - 1
    · rw [if_pos hc] at e
      obtain ⟨y, hy, hg, hle⟩ := hL.get (j := at_ - 1) (by omega)
      rw [hg] at e
      have hax := backK_le hL r y a (by omega) e
      rcases List.mem_cons.1 hk with rfl | hk
      · omega
      · exact backK_kid hL r y a (by omega) e k hk
    · rw [if_neg hc] at e; cases e
section
variable {l : List PNode} {s : List Nat} (h : startsL l = some s)
include h
theorem start_le {i : Nat} (hi : i < l.length) : s.getD i 0 ≤ i := by
  obtain ⟨hL, hl⟩ := startsL_low h
  obtain ⟨x, _, hg, hle⟩ := hL.get (j := i) (by omega)
  omega
/-- parts within a part begin no earlier -/
theorem start_in : ∀ (i : Nat), i < l.length → ∀ j, s.getD i 0 ≤ j → j ≤ i → s.getD i 0 ≤ s.getD j 0 := by
  intro i
  induction i using Nat.strongRecOn with
  | ind i ih =>
    intro hi j h1 h2
    obtain ⟨hL, hl⟩ := startsL_low h
    by_cases hj : j = i
    · subst hj; exact Nat.le_refl _
    · obtain ⟨k, hk, h3, h4, h5, h6⟩ := backK_tile hL _ _ _ (by omega) (starts_at h (List.getElem?_eq_getElem hi)) j h1 (by omega)
      exact Nat.le_trans h6 (ih k h3 (by omega) j h4 h5)
/-- parts within a part are less deep -/
theorem depth_in : ∀ (i : Nat), i < l.length → ∀ j, s.getD i 0 ≤ j → j ≤ i → (depsL l).getD j 0 ≤ (depsL l).getD i 0 := by
  have hK := startsL_kids h
  intro i
  induction i using Nat.strongRecOn with
  | ind i ih =>
    intro hi j h1 h2
    obtain ⟨hL, hl⟩ := startsL_low h
    by_cases hj : j = i
    · subst hj; exact Nat.le_refl _
    · obtain ⟨k, hk, h3, h4, h5, h6⟩ := backK_tile hL _ _ _ (by omega) (starts_at h (List.getElem?_eq_getElem hi)) j h1 (by omega)
      refine Nat.le_trans (ih k h3 (by omega) j h4 h5) ?_
      have e := depsL_get hK (List.getElem?_eq_getElem hi)
      have e2 : (depsL l).getD i 0 = maxD (depsL l) (l[i]).kids + 1 := by rw [List.getD_eq_getElem?_getD, e]; rfl
      have hmem : (k : Int) ∈ (l[i]).kids := by simpa using hk
      have hmax : ∀ ks : List Int, (k : Int) ∈ ks → (depsL l).getD k 0 ≤ maxD (depsL l) ks := by
        intro ks
        induction ks with
        | nil => intro hm; exact (List.not_mem_nil hm).elim
        | cons x r ihr =>
          intro hm
          rw [maxD]
          rcases List.mem_cons.1 hm with rfl | hm
          · rw [Int.toNat_natCast]; omega
          · have := ihr hm; omega
      have := hmax _ hmem
      omega
end
/-- the part of node i, which begins at a -/
def partL (l : List PNode) (a i : Nat) : List PNode := ((l.take (i + 1)).drop a).map fun nd => { nd with kids := nd.kids.map fun k => k + -(a : Int) }
theorem partL_len {l : List PNode} {a i : Nat} (hi : i < l.length) : (partL l a i).length = i + 1 - a := by
  simp [partL]
  omega
theorem partL_get {l : List PNode} {a i x : Nat} (hi : i < l.length) (hx : x + a ≤ i) : ∃ nd, l[x + a]? = some nd ∧ (partL l a i)[x]? = some { nd with kids := nd.kids.map fun k => k + -(a : Int) } := by
  refine ⟨l[x + a], List.getElem?_eq_getElem (by omega), ?_⟩
  rw [partL, List.getElem?_map, List.getElem?_drop, Nat.add_comm a x, List.getElem?_take_of_lt (by omega), List.getElem?_eq_getElem (by omega)]
  rfl
/-- a way back through the kids, all so much further down -/
theorem backK_down {s sm : List Nat} {a N : Nat} (hL : Low s) (hN : N ≤ s.length) (hsm : ∀ x, x + a < N → sm.getD x 0 + a = s.getD (x + a) 0) : ∀ (ks : List Int) (at_ r : Nat), at_ ≤ N → a ≤ r → backK s ks at_ = some r → backK sm (ks.map fun k => k + -(a : Int)) (at_ - a) = some (r - a)
  | [], at_, r, _, _, e => by simp [backK] at e ⊢; omega
  | k :: t, at_, r, hat, har, e => by
    rw [backK] at e
    by_cases hc : at_ ≠ 0 ∧ k = (at_ : Int) - 1
    · rw [if_pos hc] at e
      obtain ⟨x, hx, hg, hle⟩ := hL.get (j := at_ - 1) (by omega)
      rw [hg] at e
      have hrx := backK_le hL t x r (by omega) e
      rw [List.map_cons, backK, if_pos (by omega)]
      have h1 := hsm (at_ - 1 - a) (by omega)
      rw [show at_ - 1 - a + a = at_ - 1 by omega, hg] at h1
      rw [show at_ - a - 1 = at_ - 1 - a by omega, show sm.getD (at_ - 1 - a) 0 = x - a by omega]
      exact backK_down hL hN hsm t x r (by omega) har e
    · rw [if_neg hc] at e; cases e
section
variable {l : List PNode} {s : List Nat} (h : startsL l = some s) {i : Nat} (hi : i < l.length)
include h hi
theorem part_starts : startsL (partL l (s.getD i 0) i) = some ((List.range (i + 1 - s.getD i 0)).map fun x => s.getD (x + s.getD i 0) 0 - s.getD i 0) := by
  obtain ⟨hL, hl⟩ := startsL_low h
  have hai := start_le h hi
  obtain ⟨a, ha⟩ : ∃ a, s.getD i 0 = a := ⟨_, rfl⟩
  have hin := start_in h i hi
  rw [ha] at hai hin ⊢
  have hget : ∀ x, x + a ≤ i → ((List.range (i + 1 - a)).map fun x => s.getD (x + a) 0 - a).getD x 0 = s.getD (x + a) 0 - a := by
    intro x hx
    rw [List.getD_eq_getElem?_getD, List.getElem?_map, List.getElem?_range (by omega)]
    rfl
  refine starts_of ?_ (by rw [partL_len hi]; simp) ?_
  · intro j x hx
    rw [List.getElem?_map] at hx
    by_cases hj : j < i + 1 - a
    · rw [List.getElem?_range hj] at hx
      simp at hx
      have := start_le h (i := j + a) (by omega)
      simp at this
      omega
    · rw [List.getElem?_eq_none (by simp; omega)] at hx
      cases hx
  · intro x nd hx
    have hxl := (List.getElem?_eq_some_iff.1 hx).1
    rw [partL_len hi] at hxl
    obtain ⟨nd0, h0, h1⟩ := partL_get (a := a) (x := x) hi (by omega)
    rw [h1] at hx
    obtain rfl := Option.some.inj hx
    have hb := starts_at h h0
    rw [hget x (by omega)]
    show backK _ ((nd0.kids.map _).reverse) x = _
    rw [← List.map_reverse]
    have := backK_down (a := a) (N := i + 1) (sm := (List.range (i + 1 - a)).map fun x => s.getD (x + a) 0 - a) hL (by omega) (fun y hy => by rw [hget y (by omega)]; have := hin (y + a) (by omega) (by omega); omega) _ _ _ (show x + a ≤ i + 1 by omega) (hin (x + a) (by omega) (by omega)) hb
    rw [show x + a - a = x by omega] at this
    exact this
theorem part_shape (h4 : l.length ≤ 400) : shapeB (partL l (s.getD i 0) i) = true := by
  have hai := start_le h hi
  unfold shapeB sizeOk
  rw [part_starts h hi, partL_len hi]
  simp only [Bool.and_eq_true, decide_eq_true_eq]
  refine ⟨⟨by omega, by omega⟩, ?_⟩
  rw [List.getD_eq_getElem?_getD, List.getElem?_map, List.getElem?_range (by omega)]
  simp
  rw [show i + 1 - (s[i]?).getD 0 - 1 + (s[i]?).getD 0 = i by rw [List.getD_eq_getElem?_getD] at hai; omega]
  omega
theorem part_deps : ∀ x, x + s.getD i 0 ≤ i → (depsL (partL l (s.getD i 0) i)).getD x 0 = (depsL l).getD (x + s.getD i 0) 0 := by
  obtain ⟨hL, hl⟩ := startsL_low h
  have hK := startsL_kids h
  have hKp := startsL_kids (part_starts h hi)
  have hin := start_in h i hi
  obtain ⟨a, ha⟩ : ∃ a, s.getD i 0 = a := ⟨_, rfl⟩
  rw [ha] at hKp hin ⊢
  intro x
  induction x using Nat.strongRecOn with
  | ind x ih =>
    intro hx
    obtain ⟨nd, h0, h1⟩ := partL_get (a := a) (x := x) hi (by omega)
    have e1 := depsL_get hKp h1
    have e2 := depsL_get hK h0
    rw [List.getD_eq_getElem?_getD, e1, List.getD_eq_getElem?_getD, e2]
    simp only [Option.getD_some]
    congr 1
    have hk := hK _ _ h0
    have hk2 : ∀ k ∈ nd.kids, (a : Int) ≤ k := fun k hkm => by
      have := backK_kid hL _ _ _ (by omega) (starts_at h h0) k (by simpa using hkm)
      have := hin (x + a) (by omega) hx
      omega
    have key : ∀ ks : List Int, (∀ k ∈ ks, (a : Int) ≤ k ∧ k < ((x + a : Nat) : Int)) → maxD (depsL (partL l a i)) (ks.map fun k => k + -(a : Int)) = maxD (depsL l) ks := by
      intro ks
      induction ks with
      | nil => intro _; rfl
      | cons k r ihr =>
        intro hks
        obtain ⟨hk1, hk3⟩ := hks k (List.mem_cons_self ..)
        rw [List.map_cons, maxD, maxD, ihr fun q hq => hks q (List.mem_cons_of_mem _ hq)]
        congr 1
        have e := ih (k.toNat - a) (by omega) (by omega)
        rw [show k.toNat - a + a = k.toNat by omega] at e
        rw [show (k + -(a : Int)).toNat = k.toNat - a by omega, e]
    exact key nd.kids fun k hkm => ⟨hk2 k hkm, (hk k hkm).2⟩
theorem part_nodes {x : Nat} {nd : PNode} (hx : (partL l (s.getD i 0) i)[x]? = some nd) (hall : l.all (nodeOkB l) = true) : nodeOkB (partL l (s.getD i 0) i) nd = true := by
  obtain ⟨hL, hl⟩ := startsL_low h
  have hK := startsL_kids h
  have hin := start_in h i hi
  obtain ⟨a, ha⟩ : ∃ a, s.getD i 0 = a := ⟨_, rfl⟩
  rw [ha] at hin hx ⊢
  have hxl := (List.getElem?_eq_some_iff.1 hx).1
  rw [partL_len hi] at hxl
  obtain ⟨nd0, h0, h1⟩ := partL_get (a := a) (x := x) hi (by omega)
  rw [h1] at hx
  obtain rfl := Option.some.inj hx
  have hok := List.all_eq_true.1 hall nd0 (List.mem_of_getElem? h0)
  unfold nodeOkB at hok ⊢
  rw [Bool.and_eq_true] at hok ⊢
  have e1 : (nd0.kids.map fun k => k + -(a : Int)).length = nd0.kids.length := List.length_map ..
  refine ⟨by show fieldsB nd0.kind nd0.op nd0.text nd0.other (nd0.kids.map fun k => k + -(a : Int)).length = true; rw [e1]; exact hok.1, ?_⟩
  show kidsFrom _ nd0.kind nd0.op (nd0.kids.map fun k => k + -(a : Int)).length (nd0.kids.map fun k => k + -(a : Int)) 0 = true
  rw [e1]
  have hk := hK _ _ h0
  have hk2 : ∀ k ∈ nd0.kids, (a : Int) ≤ k := fun k hkm => by
    have := backK_kid hL _ _ _ (by omega) (starts_at h h0) k (by simpa using hkm)
    have := hin (x + a) (by omega) (by omega)
    omega
  have key : ∀ (m : Int) (ks : List Int) (c : Int), (∀ k ∈ ks, (a : Int) ≤ k ∧ k < ((x + a : Nat) : Int)) → kidsFrom (partL l a i) nd0.kind nd0.op m (ks.map fun k => k + -(a : Int)) c = kidsFrom l nd0.kind nd0.op m ks c := by
    intro m ks
    induction ks with
    | nil => intro c _; rfl
    | cons k r ihr =>
      intro c hks
      obtain ⟨hk1, hk3⟩ := hks k (List.mem_cons_self ..)
      rw [List.map_cons, kidsFrom, kidsFrom, ihr (c + 1) fun q hq => hks q (List.mem_cons_of_mem _ hq)]
      congr 2
      obtain ⟨nk, g0, g1⟩ := partL_get (a := a) (x := k.toNat - a) hi (by omega)
      rw [show k.toNat - a + a = k.toNat by omega] at g0
      unfold kindAt
      rw [show (k + -(a : Int)).toNat = k.toNat - a by omega, g0, g1]
  rw [key _ _ _ fun k hkm => ⟨hk2 k hkm, (hk k hkm).2⟩]
  exact hok.2
end
theorem part_tree {l : List PNode} (ht : treeB l = true) : ∃ s, startsL l = some s ∧ ∀ i, i < l.length → treeB (partL l (s.getD i 0) i) = true := by
  unfold treeB at ht
  simp only [Bool.and_eq_true, decide_eq_true_eq] at ht
  obtain ⟨⟨h1, h2⟩, h3⟩ := ht
  obtain ⟨hl1, hl2, s, hs, h0⟩ := shapeB_parts h1
  refine ⟨s, hs, fun i hi => ?_⟩
  have hsh := part_shape hs hi hl2
  have hai := start_le hs hi
  unfold treeB
  simp only [Bool.and_eq_true, decide_eq_true_eq]
  refine ⟨⟨hsh, ?_⟩, List.all_eq_true.2 fun nd hnd => ?_⟩
  · have hd : depthL l = (depsL l).getD (l.length - 1) 0 := by unfold depthL; rw [if_pos h1]
    unfold depthL
    rw [if_pos hsh, partL_len hi, part_deps hs hi _ (by omega), show i + 1 - s.getD i 0 - 1 + s.getD i 0 = i by omega]
    have := depth_in hs (l.length - 1) (by omega) i (by omega) (by omega)
    omega
  · obtain ⟨x, hx⟩ := List.mem_iff_getElem?.1 hnd
    exact part_nodes hs hi hx h3
end Go.Proofs.YtlabmboedjnpmaaGreatDoor
