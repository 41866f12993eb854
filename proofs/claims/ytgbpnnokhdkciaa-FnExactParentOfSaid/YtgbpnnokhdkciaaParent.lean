/- ParentOf (walks), and the walk of its law. -/
import Derived.Test.YtgbpnnokhdkciaaLawsShape
namespace Go.Proofs.Ytgbpnnokhdkciaa
open Go.RowKit
set_option linter.unusedVariables false

/-- the first place at which p holds, -1 if there is none -/
def findP {α : Type} (p : α → Bool) : List α → Nat → Int
  | [], _ => -1
  | x :: r, k => if p x then (k : Int) else findP p r (k + 1)
theorem findP_drop {α : Type} (p : α → Bool) {l : List α} {j : Nat} {x : α} (h : l[j]? = some x) : findP p (l.drop j) j = if p x then (j : Int) else findP p (l.drop (j + 1)) (j + 1) := by
  have hj := (List.getElem?_eq_some_iff.1 h).1
  have e : l.drop j = x :: l.drop (j + 1) := by rw [List.drop_eq_getElem_cons hj, (List.getElem?_eq_some_iff.1 h).2]
  rw [e, findP]
theorem findP_end {α : Type} (p : α → Bool) {l : List α} {j : Nat} (h : l.length ≤ j) : findP p (l.drop j) j = -1 := by rw [List.drop_eq_nil_of_le h]; rfl
theorem findP_any {α : Type} (p : α → Bool) : ∀ (l : List α) (k : Nat), decide (0 ≤ findP p l k) = l.any p
  | [], _ => rfl
  | x :: r, k => by
    rw [findP, List.any_cons]
    cases h : p x
    · simpa using findP_any p r (k + 1)
    · simp
def hasKid (i : Int) (nd : PNode) : Bool := nd.kids.any fun x => i == x
def parentOfL (l : List PNode) (i : Int) : Int := if shapeB l = true then findP (hasKid i) l 0 else -1
theorem findP_bd {α : Type} (p : α → Bool) : ∀ (l : List α) (k : Nat), findP p l k = -1 ∨ (0 ≤ findP p l k ∧ findP p l k < k + l.length)
  | [], _ => .inl rfl
  | x :: r, k => by
    rw [findP]
    split
    · right; simp; omega
    · rcases findP_bd p r (k + 1) with h | h
      · exact .inl h
      · right; simp; omega
set_option maxRecDepth 100000 in
set_option maxHeartbeats 2000000 in
theorem s_parentOf (v : Value) (l : List PNode) (i : Int) (w : World) (hi0 : okInt i) (hl : l.length ≤ 1048576) (h : NodesIn w w.heap.size v l) : Calls Try.prog 86 #[v, .int .i64 i] w (RetInt w (parentOfL l i)) := by
  have g := Lib.hid h
  obtain ⟨A, c, rfl, hlc, hcm, hcell, hsz⟩ := h
  unfold maxLen at hcm
  clear hsz
  cases hs : shapeB l
  · have hr : parentOfL l i = -1 := by unfold parentOfL; rw [hs]; rfl
    rw [hr]
    have hsH := Lib.hid hs
    clear hs hr hcell
    go_enter Try.func86, Try.ntmps86
    go_wp2_with (go_at_call 80; refine (s_shapeOk _ l _ hl g.out).mono ?_; rintro e w1 ⟨rfl, hb⟩; rw [hsH.out])
    go_ret
    exact ⟨rfl, hb⟩
  · have hr : parentOfL l i = findP (hasKid i) l 0 := by unfold parentOfL; rw [hs]; rfl
    rw [hr]
    obtain ⟨R, hR⟩ : ∃ R, findP (hasKid i) l 0 = R := ⟨_, rfl⟩
    rw [hR]
    have hRH := Lib.hid hR
    have hsH := Lib.hid hs
    clear hs hr hR
    obtain ⟨n, hn⟩ : ∃ n, l.length = n := ⟨_, rfl⟩
    rw [hn] at hl hlc hcell g ⊢
    have hnH := Lib.hid hn
    clear hn
    have hl2 : l.length ≤ 1048576 := by have := hnH.out; omega
    go_enter Try.func86, Try.ntmps86
    go_wp2_with (go_at_call 80; refine (s_shapeOk _ l _ hl2 g.out).mono ?_; rintro e w1 ⟨rfl, hb⟩; rw [hsH.out])
    go_loop [5] (fun x => ∃ (j : Nat), j ≤ n ∧ Hid (R = findP (hasKid i) (l.drop j) j) ∧ x = .int .i64 j) (fun x => (n - (intOf x).toNat))
    case atStart => exact ⟨0, by omega, hRH.out.symm, by go_num⟩
    case round =>
      obtain ⟨j, hj, hd, rfl⟩ := hrel
      by_cases hlt : j < n
      · obtain ⟨nd, hnd⟩ : ∃ nd, l[j]? = some nd := ⟨l[j]'(by rw [hnH.out]; exact hlt), List.getElem?_eq_getElem _⟩
        obtain ⟨b, off, hA, hlt2, hc⟩ := hcell (by omega)
        subst hA
        obtain ⟨kv, e0, e1, e2, e3, e4, K, kc, rfl, hk1, hk2, hk3, hk4⟩ := hc j nd hnd
        have hk : ∀ o, w1.cell? ⟨b, o, none⟩ = w.cell? ⟨b, o, none⟩ := fun o => hb.cell (p := ⟨b, o, none⟩) hlt2
        rw [← hk] at e4
        have hdr := Lib.hid (findP_drop (hasKid i) hnd)
        clear hk e0 e1 e2 e3 hk4 hc hnd hcell
        obtain ⟨m, hm⟩ : ∃ m, nd.kids.length = m := ⟨_, rfl⟩
        rw [hm] at e4 hk1 hk3
        have hmH := Lib.hid hm
        clear hm
        unfold maxLen at hk2
        go_wp2_with fail
        go_loop [6] (fun x => ∃ (k : Nat), k ≤ m ∧ Hid (nd.kids.any (fun x => i == x) = (nd.kids.drop k).any (fun x => i == x)) ∧ x = .int .i64 k) (fun x => (m - (intOf x).toNat))
        case atStart => exact ⟨0, by omega, by show _ = _; rfl, by go_num⟩
        case round =>
          obtain ⟨k, hk, hany, rfl⟩ := hrel
          by_cases hkl : k < m
          · obtain ⟨x, hx⟩ : ∃ x, nd.kids[k]? = some x := ⟨nd.kids[k]'(by rw [hmH.out]; exact hkl), List.getElem?_eq_getElem _⟩
            obtain ⟨bk, ok, hK, hbl, hkc⟩ := hk3 (by omega)
            subst hK
            have ex := (hb.cell (p := ⟨bk, ok + k, none⟩) hbl).trans (hkc k x hx)
            have hdk : Hid (nd.kids.drop k = x :: nd.kids.drop (k + 1)) := by
              show _ = _
              have hj := (List.getElem?_eq_some_iff.1 hx).1
              rw [List.drop_eq_getElem_cons hj, (List.getElem?_eq_some_iff.1 hx).2]
            clear hkc hx hk3
            cases hxi : (x == i)
            · have hst : Hid (nd.kids.any (fun x => i == x) = (nd.kids.drop (k + 1)).any (fun x => i == x)) := by
                show _ = _
                rw [hany.out, hdk.out, List.any_cons]
                have : (i == x) = false := by rw [beq_eq_false_iff_ne] at hxi ⊢; exact fun e => hxi e.symm
                rw [this]
                rfl
              go_wp2_with fail
              go_round
              case rel => exact ⟨k + 1, by omega, hst, by go_num⟩
              case measure => simp [intOf]; omega
            · have hRj : R = (j : Int) := by
                have h1 : hasKid i nd = true := by
                  show nd.kids.any (fun x => i == x) = true
                  rw [hany.out, hdk.out, List.any_cons]
                  have : (i == x) = true := by rw [beq_iff_eq] at hxi ⊢; exact hxi.symm
                  rw [this]
                  rfl
                rw [hd.out, hdr.out, if_pos h1]
              subst hRj
              go_wp2_with fail
              go_ret
              exact ⟨rfl, hb⟩
          · obtain rfl : k = m := by omega
            have hst : Hid (R = findP (hasKid i) (l.drop (j + 1)) (j + 1)) := by
              show _ = _
              have h1 : hasKid i nd = false := by
                show nd.kids.any (fun x => i == x) = false
                rw [hany.out, List.drop_eq_nil_of_le (by rw [hmH.out]; omega)]
                rfl
              rw [hd.out, hdr.out, if_neg (by rw [h1]; simp)]
            go_wp2_with fail
            go_round
            case rel => exact ⟨j + 1, by omega, hst, by go_num⟩
            case measure => simp [intOf]; omega
      · obtain rfl : j = n := by omega
        have hRj : R = -1 := by rw [hd.out, findP_end _ (by rw [hnH.out]; omega)]
        subst hRj
        clear hcell
        go_wp2_with fail
        go_ret
        exact ⟨rfl, hb⟩
set_option maxRecDepth 100000 in
set_option maxHeartbeats 1000000 in
theorem i_index (v : Value) (l : List Int) (x : Int) (w : World) (h : IntsIn w w.heap.size v l) : Calls Try.prog 135 #[v, .int .i64 x] w fun e w' => e = .returned (.int .i64 (findP (fun y => x == y) l 0)) ∧ w = w' := by
  obtain ⟨A, c, rfl, hlc, hcm, hcell, hok⟩ := h
  unfold maxLen at hcm
  clear hok
  obtain ⟨R, hR⟩ : ∃ R, findP (fun y => x == y) l 0 = R := ⟨_, rfl⟩
  rw [hR]
  have hRH := Lib.hid hR
  clear hR
  obtain ⟨n, hn⟩ : ∃ n, l.length = n := ⟨_, rfl⟩
  rw [hn] at hlc hcell ⊢
  have hnH := Lib.hid hn
  clear hn
  go_enter Try.func135, Try.ntmps135
  go_wp2_with fail
  go_loop [8] (fun z => ∃ (j : Nat), j ≤ n ∧ Hid (R = findP (fun y => x == y) (l.drop j) j) ∧ z = .int .i64 j) (fun z => (n - (intOf z).toNat))
  case atStart => exact ⟨0, by omega, hRH.out.symm, by go_num⟩
  case round =>
    obtain ⟨j, hj, hd, rfl⟩ := hrel
    by_cases hlt : j < n
    · obtain ⟨y, hy⟩ : ∃ y, l[j]? = some y := ⟨l[j]'(by rw [hnH.out]; exact hlt), List.getElem?_eq_getElem _⟩
      obtain ⟨b, off, hA, hlt2, hc⟩ := hcell (by omega)
      subst hA
      have e0 := hc j y hy
      have hdr := Lib.hid (findP_drop (fun y => x == y) hy)
      clear hc hy hcell
      cases hxy : (x == y)
      · have hst : Hid (R = findP (fun y => x == y) (l.drop (j + 1)) (j + 1)) := by
          show _ = _
          rw [hd.out, hdr.out]
          simp only [hxy, Bool.false_eq_true, if_false]
        go_wp2_with fail
        go_round
        case rel => exact ⟨j + 1, by omega, hst, by go_num⟩
        case measure => simp [intOf]; omega
      · have hRj : R = (j : Int) := by
          rw [hd.out, hdr.out]
          simp only [hxy, if_true]
        subst hRj
        go_wp2_with fail
        go_ret
        exact ⟨rfl, rfl⟩
    · obtain rfl : j = n := by omega
      have hRj : R = -1 := by rw [hd.out, findP_end _ (by rw [hnH.out]; omega)]
      subst hRj
      clear hcell
      go_wp2_with fail
      go_ret
      exact ⟨rfl, rfl⟩
theorem i_contains (v : Value) (l : List Int) (x : Int) (w : World) (h : IntsIn w w.heap.size v l) : Calls Try.prog 127 #[v, .int .i64 x] w fun e w' => e = .returned (.bool (l.any fun y => x == y)) ∧ w = w' := by
  have g := Lib.hid h
  obtain ⟨A, c, rfl, r⟩ := h
  clear r
  obtain ⟨R, hR⟩ : ∃ R, (l.any fun y => x == y) = R := ⟨_, rfl⟩
  rw [hR]
  have hRH := Lib.hid (hR.symm.trans (findP_any (fun y => x == y) l 0).symm)
  clear hR
  go_enter Try.func127, Try.ntmps127
  go_wp2_with (go_at_call 135; refine (i_index _ l _ _ g.out).mono ?_; rintro e w' ⟨rfl, rfl⟩)
  go_ret
  exact ⟨ret_bool (by rw [hRH.out]), rfl⟩
set_option maxRecDepth 100000 in
set_option maxHeartbeats 1000000 in
theorem i_hasKid (nd : PNode) (K : Option Addr) (kc g : Nat) (i : Int) (w : World) (hg : g < w.heap.size) (hc : w.cell? ⟨g, 0, none⟩ = some (.int .i64 i)) (h : IntsIn w w.heap.size (.slice K nd.kids.length kc) nd.kids) :
    Calls Try.prog 126 #[.agg #[.int .i64 nd.kind, .int .i64 nd.op, .string nd.text, .string nd.other, .slice K nd.kids.length kc], .pointer (some ⟨g, 0, none⟩)] w (RetBool w (hasKid i nd)) := by
  have hb : Below w.heap.size w (w.alloc (.cells #[.int .i64 nd.kind, .int .i64 nd.op, .string nd.text, .string nd.other, .slice K nd.kids.length kc] 67)) := (Below.refl _ _).alloc (Nat.le_refl _) _
  have hk := Lib.hid ((h.keep hb (Nat.le_refl _)).more hb.size)
  have hc1 := (hb.cell (p := ⟨g, 0, none⟩) hg).trans hc
  clear h
  go_enter Try.func126, Try.ntmps126
  go_wp2_with (go_at_call 127; refine (i_contains _ nd.kids _ _ hk.out).mono ?_; rintro e w' ⟨rfl, rfl⟩)
  go_ret
  exact ⟨rfl, hb⟩
set_option maxRecDepth 100000 in
set_option maxHeartbeats 1000000 in
theorem i_indexFunc (v : Value) (l : List PNode) (g : Nat) (i : Int) (w : World) (hg : g < w.heap.size) (hcg : w.cell? ⟨g, 0, none⟩ = some (.int .i64 i)) (h : NodesIn w w.heap.size v l) :
    Calls Try.prog 125 #[v, .func (.func 126) #[] #[.pointer (some ⟨g, 0, none⟩)]] w (RetInt w (findP (hasKid i) l 0)) := by
  obtain ⟨A, c, rfl, hlc, hcm, hcell, hsz⟩ := h
  unfold maxLen at hcm
  clear hsz
  obtain ⟨R, hR⟩ : ∃ R, findP (hasKid i) l 0 = R := ⟨_, rfl⟩
  rw [hR]
  have hRH := Lib.hid hR
  clear hR
  obtain ⟨n, hn⟩ : ∃ n, l.length = n := ⟨_, rfl⟩
  rw [hn] at hlc hcell ⊢
  have hnH := Lib.hid hn
  clear hn
  go_enter Try.func125, Try.ntmps125
  go_wp2_with fail
  go_loopw [8] (fun z wr => ∃ (j : Nat), j ≤ n ∧ Hid (R = findP (hasKid i) (l.drop j) j) ∧ z = .int .i64 j ∧ Below w.heap.size w wr) (fun z _ => (n - (intOf z).toNat))
  case atStart => exact ⟨0, by omega, hRH.out.symm, by go_num, Below.refl _ _⟩
  case round =>
    obtain ⟨j, hj, hd, rfl, hb⟩ := hrel
    by_cases hlt : j < n
    · obtain ⟨nd, hnd⟩ : ∃ nd, l[j]? = some nd := ⟨l[j]'(by rw [hnH.out]; exact hlt), List.getElem?_eq_getElem _⟩
      obtain ⟨b, off, hA, hlt2, hc⟩ := hcell (by omega)
      subst hA
      obtain ⟨kv, e0, e1, e2, e3, e4, hK⟩ := hc j nd hnd
      have hK2 := Lib.hid ((hK.keep hb (Nat.le_refl _)).more hb.size)
      obtain ⟨K, kc, rfl, r⟩ := hK
      clear r
      have hk : ∀ o, wr.cell? ⟨b, o, none⟩ = w.cell? ⟨b, o, none⟩ := fun o => hb.cell (p := ⟨b, o, none⟩) hlt2
      rw [← hk] at e0 e1 e2 e3 e4
      have hcg1 := Lib.hid ((hb.cell (p := ⟨g, 0, none⟩) hg).trans hcg)
      have hg1 : g < wr.heap.size := by have := hb.size; omega
      have hdr := Lib.hid (findP_drop (hasKid i) hnd)
      clear hk hc hnd hcell
      cases hq : hasKid i nd
      · have hst : Hid (R = findP (hasKid i) (l.drop (j + 1)) (j + 1)) := by
          show _ = _
          rw [hd.out, hdr.out, hq]
          rfl
        have hqH := Lib.hid hq
        clear hq
        go_wp2_with (go_at_call 126; refine (i_hasKid nd _ _ _ i _ hg1 hcg1.out hK2.out).mono ?_; rintro e w2 ⟨rfl, hb2⟩; rw [hqH.out])
        go_roundw
        case rel => exact ⟨j + 1, by omega, hst, by go_num, hb.trans (hb2.mono hb.size)⟩
        case measure => simp [intOf]; omega
      · have hRj : R = (j : Int) := by
          rw [hd.out, hdr.out, hq]
          rfl
        subst hRj
        have hqH := Lib.hid hq
        clear hq
        go_wp2_with (go_at_call 126; refine (i_hasKid nd _ _ _ i _ hg1 hcg1.out hK2.out).mono ?_; rintro e w2 ⟨rfl, hb2⟩; rw [hqH.out])
        go_ret
        exact ⟨rfl, hb.trans (hb2.mono hb.size)⟩
    · obtain rfl : j = n := by omega
      have hRj : R = -1 := by rw [hd.out, findP_end _ (by rw [hnH.out]; omega)]
      subst hRj
      clear hcell
      go_wp2_with fail
      go_ret
      exact ⟨rfl, hb⟩
set_option maxRecDepth 100000 in
set_option maxHeartbeats 1000000 in
theorem i_parentOf (v : Value) (l : List PNode) (i : Int) (w : World) (hi0 : okInt i) (h : NodesIn w w.heap.size v l) : Calls Try.prog 87 #[v, .int .i64 i] w (RetInt w (parentOfL l i)) := by
  have hb0 : Below w.heap.size w (w.alloc (.cells #[.int .i64 i] 3)) := (Below.refl _ _).alloc (Nat.le_refl _) _
  have g := Lib.hid ((h.keep hb0 (Nat.le_refl _)).more hb0.size)
  have hc0 : Hid ((w.alloc (.cells #[.int .i64 i] 3)).cell? ⟨w.heap.size, 0, none⟩ = some (.int .i64 i)) := by
    show _ = _
    rw [World.cell?_alloc_new]
    rfl
  obtain ⟨A, c, rfl, hlc, hcm, r⟩ := h
  clear r
  unfold maxLen at hcm
  cases hs : shapeB l
  · have hr : parentOfL l i = -1 := by unfold parentOfL; rw [hs]; rfl
    rw [hr]
    have hsH := Lib.hid hs
    clear hs hr
    go_enter Try.func87, Try.ntmps87
    go_wp2_with (go_at_call 81; refine (i_shapeOk _ l _ g.out).mono ?_; rintro e w1 ⟨rfl, hb⟩; rw [hsH.out])
    go_ret
    exact ⟨rfl, hb0.trans (hb.mono hb0.size)⟩
  · have hr : parentOfL l i = findP (hasKid i) l 0 := by unfold parentOfL; rw [hs]; rfl
    rw [hr]
    have hsH := Lib.hid hs
    clear hs hr
    go_enter Try.func87, Try.ntmps87
    go_wp2_with fail
    refine (i_shapeOk _ l _ g.out).mono ?_
    rintro e w1 ⟨rfl, hb⟩
    rw [hsH.out]
    have g1 := Lib.hid ((g.out.keep hb (Nat.le_refl _)).more hb.size)
    have hlt : w.heap.size < w1.heap.size := by have := hb.size; simp at this; omega
    have hc1 := Lib.hid ((hb.cell (p := ⟨w.heap.size, 0, none⟩) (by simp)).trans hc0.out)
    go_wp2_with (go_at_call 125; refine (i_indexFunc _ l _ i _ hlt hc1.out g1.out).mono ?_; rintro e w2 ⟨rfl, hb2⟩)
    go_ret
    exact ⟨rfl, (hb0.trans (hb.mono hb0.size)).trans (hb2.mono (hb0.trans (hb.mono hb0.size)).size)⟩
set_option maxRecDepth 100000 in
set_option maxHeartbeats 1000000 in
theorem l_ParentOf (v0 : Value) (a0 : List PNode) (a1 : Int) (w : World) (h0 : NodesIn w w.heap.size v0 a0) (w1 : (Lit.int .i64 a1).wf = true) : Calls Try.prog 26 #[v0, .int .i64 a1] w fun e w' => e = .returned (.bool true) ∧ Below w.heap.size w w' := by
  have k1 := okInt_of w1
  obtain ⟨_, _⟩ := k1
  by_cases hs0 : nodesBulk a0 ≤ 1048576
  · have hz0 : nodesBulk a0 ≤ 1048576 := by omega
    obtain ⟨q0, hq0⟩ : ∃ q : Int, subB 1048576 (nodesBulk a0) = q := ⟨_, rfl⟩
    have hr0 : Hid (q0 = 1048576 - ((nodesBulk a0 : Int) : Int)) := by show _ = _; rw [← hq0, subB_ge (by omega)]
    have hb0 : 0 ≤ q0 ∧ q0 ≤ 1048576 := by have := hr0.out; omega
    go_enter Try.func26, Try.ntmps26
    go_wp2_with fail
    refine (l_szNodes _ a0 _ _ (by omega) (by omega) h0).mono ?_
    rintro e x1 ⟨rfl, b1⟩
    have c1 := b1
    rw [hq0]
    go_wp2_with fail
    refine (l_toNodes _ a0 _ hz0 ((h0.keep c1 (Nat.le_refl _)).more c1.size)).mono ?_
    rintro e x2 ⟨u0, rfl, s0, _, b2⟩
    have c2 := c1.trans (b2.mono c1.size)
    go_wp2_with fail
    refine (s_parentOf _ a0 a1 _ (okInt_of w1) (bulk_len hz0) s0).mono ?_
    rintro e x3 ⟨rfl, b3⟩
    have c3 := c2.trans (b3.mono c2.size)
    go_wp2_with fail
    refine (l_toNodes _ a0 _ hz0 ((h0.keep c3 (Nat.le_refl _)).more c3.size)).mono ?_
    rintro e x4 ⟨y0, rfl, i0, _, b4⟩
    have c4 := c3.trans (b4.mono c3.size)
    go_wp2_with fail
    refine (i_parentOf _ a0 a1 _ (okInt_of w1) i0).mono ?_
    rintro e x5 ⟨rfl, b5⟩
    have c5 := c4.trans (b5.mono c4.size)
    have i0 := (i0.keep b5 (Nat.le_refl _)).more b5.size
    go_wp2_with fail
    refine (l_toNodes _ a0 _ hz0 ((h0.keep c5 (Nat.le_refl _)).more c5.size)).mono ?_
    rintro e x6 ⟨z0, rfl, e0, _, b6⟩
    have c6 := c5.trans (b6.mono c5.size)
    have i0 := (i0.keep b6 (Nat.le_refl _)).more b6.size
    go_wp2_with fail
    refine (l_eqNodes _ _ a0 _ i0 e0).mono ?_
    rintro e x7 ⟨rfl, b7⟩
    have c7 := c6.trans (b7.mono c6.size)
    have i0 := (i0.keep b7 (Nat.le_refl _)).more b7.size
    go_wp2_with fail
    go_ret
    exact ⟨rfl, c7⟩
  · go_enter Try.func26, Try.ntmps26
    go_wp2_with fail
    refine (l_szNodes _ a0 _ _ (by omega) (by omega) h0).mono ?_
    rintro e x1 ⟨rfl, b1⟩
    have c1 := b1
    rw [subB_lt (by omega)]
    go_wp2_with fail
    go_ret
    exact ⟨rfl, c1⟩
end Go.Proofs.Ytgbpnnokhdkciaa
