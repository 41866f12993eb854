/- Several texts in one (printed by a program): OwnI, Shape, Shape2, Depth. -/
import Derived.Test.YtlabmboedjnpmaaGreatDoorChecked
import Derived.Test.YtlabmboedjnpmaaGreatDoorKitR
import Derived.Test.YtlabmboedjnpmaaGreatDoorLexR
/-! OwnI -/
namespace Go.Proofs.YtlabmboedjnpmaaGreatDoor
open Go.RowKit
set_option linter.unusedVariables false

def OwnI (w : World) (base : Nat) (v : Value) (l : List Int) : Prop := w.ownsRow base 3 1 v l.length (l.map fun b => Value.int .i64 b)
theorem OwnI.alloc {w : World} {base : Nat} {v : Value} {l : List Int} (h : OwnI w base v l) (o : Obj) : OwnI (w.alloc o) base v l := World.ownsRow.alloc h o
theorem OwnI.start (w : World) {base : Nat} (hb : base ≤ w.heap.size) : OwnI (w.alloc (.cells #[] 3)) base (.slice (some ⟨w.heap.size, 0, none⟩) 0 0) [] :=
  World.ownsRow_lit w #[] 0 hb (Nat.zero_le _) rfl
theorem app_ints {ops : Array Oper} {rest : List Oper} {o : Oper} {a : Act} {Q : Exit → Act → World → Prop} {w : World} (hgd : o.guard = none) (s x : Operand)
    (ho : o.op = .call { callee := .builtin .append, args := #[s, x], argTypes := #[28, 28] }) (base : Nat) (v : Value) (l : List Int) (hs : a.eval s = v) (hown : OwnI w base v l)
    (g m c : Nat) (new : List Int) (hx : a.eval x = .slice (some ⟨g, 0, none⟩) m c) (hm : new.length = m) (hnew : ∀ j b, new[j]? = some b → w.cell? ⟨g, j, none⟩ = some (.int .i64 b))
    (hsz : l.length + m ≤ 16777216) (hbase : base ≤ w.heap.size)
    (h : ∀ v' w', OwnI w' base v' (l ++ new) → Below base w w' → wpList Tryz.prog ops Q rest (a.put o.dst v') w') : wpList Tryz.prog ops Q (o :: rest) a w := by
  obtain ⟨i0, hi, hz0, hz1, hz2⟩ := info_parts info_int
  refine wpList_append_own w hgd s x 28 ho base 3 i0 (.int .i64 0) 1 8 Tryz.underlying28 hi hz0 hz1 hz2 rfl (by decide) v l.length _ hs hown ⟨g, 0, none⟩ m c (new.map fun b => Value.int .i64 b) hx (by simp [hm]) ?_ ?_ (by unfold maxLen; omega) (by omega) hbase ?_
  · intro j u hu
    rw [List.getElem?_map] at hu
    cases hb : new[j]? with
    | none => rw [hb] at hu; cases hu
    | some b =>
      rw [hb] at hu
      obtain rfl := Option.some.inj hu
      have e : (⟨g, 0, none⟩ : Addr).add j = ⟨g, j, none⟩ := by unfold Addr.add; split <;> simp_all
      rw [e]
      exact hnew j b hb
  · intro u hu
    obtain ⟨b, _, rfl⟩ := List.mem_map.1 hu
    rfl
  · intro v' w' h2 h3 _
    refine h v' w' ?_ ?_
    · unfold OwnI
      rw [List.length_append, List.map_append, hm]
      exact h2
    · exact (Below.refl base w).grown h3 hbase (fun k hk => (hown.lt k hk).1)
theorem one_newi (w : World) (x : Int) (e : TypeId) : ∀ j b, [x][j]? = some b → (w.alloc (.cells #[.int .i64 x] e)).cell? ⟨w.heap.size, j, none⟩ = some (.int .i64 b) := by
  intro j b h
  rw [World.cell?_alloc_new]
  match j, h with
  | 0, h => simp at h; subst h; rfl
theorem OwnI.open {w : World} {base : Nat} {v : Value} {l : List Int} (h : OwnI w base v l) : (v = .slice none 0 0 ∧ l = []) ∨ ∃ g cap, v = .slice (some ⟨g, 0, none⟩) l.length cap ∧ base ≤ g ∧ g < w.heap.size ∧ l.length ≤ cap ∧ cap ≤ maxLen ∧ ∀ i x, l[i]? = some x → w.cell? ⟨g, i, none⟩ = some (.int .i64 x) := by
  have hlt := h.lt
  obtain ⟨_, h2⟩ := h
  rcases h2 with ⟨rfl, h0⟩ | ⟨g, cap, cur, rfl, hb, hh, q1, q2, hsz, htk⟩
  · exact .inl ⟨rfl, List.eq_nil_of_length_eq_zero h0⟩
  · refine .inr ⟨g, cap, rfl, hb, (Array.getElem?_eq_some_iff.1 hh).1, q1, q2, fun i x hx => ?_⟩
    have hi := (List.getElem?_eq_some_iff.1 hx).1
    rw [cell_of_row w g i cur _ _ hh]
    have h3 : (cur.toList.take (l.length * 1))[i]? = (l.map fun b => Value.int .i64 b)[i]? := by rw [htk]
    rw [List.getElem?_take_of_lt (by omega), Array.getElem?_toList, List.getElem?_map, hx] at h3
    exact h3
theorem OwnI.ints {w : World} {base : Nat} {v : Value} {l : List Int} (h : OwnI w base v l) (hl : ∀ x ∈ l, okInt x) : IntsIn w w.heap.size v l ∧ FromOn base v := by
  rcases h.open with ⟨rfl, rfl⟩ | ⟨g, cap, rfl, hb, hg, q1, q2, hc⟩
  · exact ⟨IntsIn.nil _ _, fun k hk => by cases hk⟩
  · exact ⟨⟨_, _, rfl, q1, q2, fun _ => ⟨g, 0, rfl, hg, fun i x hx => by rw [Nat.zero_add]; exact hc i x hx⟩, hl⟩, fun k hk => by obtain rfl := Option.some.inj hk; exact hb⟩
theorem OwnI.drew {w : World} {base : Nat} {v : Value} {l : List Int} (h : OwnI w base v l) : OwnI w.drew base v l := h
theorem OwnI.drewN {w : World} {base : Nat} {v : Value} {l : List Int} (h : OwnI w base v l) (n : Nat) : OwnI (w.drewN n) base v l := h
end Go.Proofs.YtlabmboedjnpmaaGreatDoor
/-! Shape -/
namespace Go.Proofs.YtlabmboedjnpmaaGreatDoor
open Go.RowKit
set_option linter.unusedVariables false

def castL (s : List Nat) : List Int := s.map fun (x : Nat) => (x : Int)
theorem castL_len (s : List Nat) : (castL s).length = s.length := by simp [castL]
theorem castL_snoc (s : List Nat) (a : Nat) : castL s ++ [(a : Int)] = castL (s ++ [a]) := by simp [castL]
theorem castL_get {s : List Nat} {i x : Nat} (h : s[i]? = some x) : (castL s)[i]? = some (x : Int) := by simp [castL, h]
theorem castL_ok {s : List Nat} (h : Low s) (hl : s.length ≤ 1048576) : ∀ x ∈ castL s, okInt x := by
  intro x hx
  obtain ⟨n, hn, rfl⟩ := List.mem_map.1 hx
  obtain ⟨i, hi⟩ := List.mem_iff_getElem?.1 hn
  have := h i n hi
  have := (List.getElem?_eq_some_iff.1 hi).1
  unfold okInt
  omega
def RetStarts (w : World) (l : List PNode) (e : Ending) (w' : World) : Prop := ∃ v, e = .returned (.tuple #[v, .bool (startsL l).isSome]) ∧ (∀ s, startsL l = some s → IntsIn w' w'.heap.size v (castL s)) ∧ FromOn w.heap.size v ∧ Below w.heap.size w w'
theorem RetStarts.no {w wx : World} {l : List PNode} {v : Value} (hn : startsL l = none) (hf : FromOn w.heap.size v) (hb : Below w.heap.size w wx) : RetStarts w l (.returned (.tuple #[v, .bool false])) wx := by
  unfold RetStarts
  rw [hn]
  exact ⟨v, rfl, (fun s h => by cases h), hf, hb⟩
theorem RetStarts.yes {w wx : World} {l : List PNode} {v : Value} {s : List Nat} (hs : startsL l = some s) (hi : IntsIn wx wx.heap.size v (castL s)) (hf : FromOn w.heap.size v) (hb : Below w.heap.size w wx) : RetStarts w l (.returned (.tuple #[v, .bool true])) wx := by
  unfold RetStarts
  rw [hs]
  exact ⟨v, rfl, (fun s2 h => by obtain rfl := Option.some.inj h; exact hi), hf, hb⟩
theorem FromOn.row {b g n c : Nat} (h : b ≤ g) : FromOn b (.slice (some ⟨g, 0, none⟩) n c) := fun k hk => by obtain rfl := Option.some.inj hk; exact h
theorem FromOn.nil (b : Nat) : FromOn b (.slice none 0 0) := fun k hk => by cases hk
set_option maxRecDepth 100000 in
set_option maxHeartbeats 2000000 in
theorem s_starts (v : Value) (l : List PNode) (w : World) (hl : l.length ≤ 1048576) (h : NodesIn w w.heap.size v l) : Calls Tryz.prog 42 #[v] w (RetStarts w l) := by
  obtain ⟨A, c, rfl, hlc, hcm, hcell, hsz⟩ := h
  unfold maxLen at hcm
  clear hsz
  obtain ⟨n, hn⟩ : ∃ n, l.length = n := ⟨_, rfl⟩
  rw [hn] at hl hlc hcell ⊢
  have hnH := Lib.hid hn
  clear hn
  go_enter Tryz.func42, Tryz.ntmps42
  go_wp2_with fail
  go_loopw [4, 5] (fun x i wr => ∃ (j : Nat) (done : List Nat), j ≤ n ∧ Hid (startsL l = startsF (l.drop j) done ∧ done.length = j ∧ Low done) ∧ OwnI wr w.heap.size x (castL done) ∧ i = .int .i64 j ∧ Below w.heap.size w wr) (fun _ i _ => (n - (intOf i).toNat))
  case atStart => exact ⟨0, [], by omega, ⟨rfl, rfl, Low.nil⟩, OwnI.start w (Nat.le_refl _), by go_num, (Below.refl _ _).alloc (Nat.le_refl _) _⟩
  case round =>
    obtain ⟨j, done, hj, hd, hown, rfl, hb⟩ := hrel
    by_cases hlt : j < n
    · obtain ⟨nd, hnd⟩ : ∃ nd, l[j]? = some nd := ⟨l[j]'(by rw [hnH.out]; exact hlt), List.getElem?_eq_getElem _⟩
      obtain ⟨b, off, hA, hlt2, hc⟩ := hcell (by omega)
      subst hA
      obtain ⟨kv, e0, e1, e2, e3, e4, K, kc, rfl, hk1, hk2, hk3, hk4⟩ := hc j nd hnd
      have hk : ∀ o, wr.cell? ⟨b, o, none⟩ = w.cell? ⟨b, o, none⟩ := fun o => hb.cell (p := ⟨b, o, none⟩) hlt2
      rw [← hk] at e0 e1 e2 e3 e4
      clear hk e0 e1 e2 e3 hk4
      obtain ⟨m, hm⟩ : ∃ m, nd.kids.length = m := ⟨_, rfl⟩
      rw [hm] at e4 hk1 hk3
      have hmH := Lib.hid hm
      have hdr := Lib.hid (startsF_drop l j nd hnd done)
      unfold maxLen at hk2
      have hown2 := Lib.hid hown
      clear hm hc hcell
      go_wp2_with fail
      go_loop [6, 7] (fun p k => ∃ (a cc : Nat), a ≤ j ∧ cc ≤ m ∧ Hid (backK done nd.kids.reverse done.length = backK done (nd.kids.take cc).reverse a) ∧ p = .int .i64 a ∧ k = .int .i64 ((cc : Int) - 1)) (fun _ k => (intOf k + 1).toNat)
      case atStart => exact ⟨j, m, Nat.le_refl _, Nat.le_refl _, by show _ = _; rw [List.take_of_length_le (by rw [hmH.out]; omega), hd.out.2.1], by go_num, by go_num⟩
      case round =>
        obtain ⟨a, cc, ha, hcc, hbk, rfl, rfl⟩ := hrel
        by_cases hc0 : cc = 0
        · subst hc0
          have hst : Hid (startsL l = startsF (l.drop (j + 1)) (done ++ [a]) ∧ (done ++ [a]).length = j + 1 ∧ Low (done ++ [a])) := by
            have h1 := hdr.out
            rw [hbk.out] at h1
            simp only [List.take_zero, List.reverse_nil, backK] at h1
            exact ⟨hd.out.1.trans h1, by simp [hd.out.2.1], hd.out.2.2.snoc (by rw [hd.out.2.1]; exact ha)⟩
          have hlen : Hid ((castL done).length + 1 ≤ 16777216) := by
            show _ ≤ _
            rw [castL_len, hd.out.2.1]
            omega
          go_wp2_with (at_builtin; refine app_ints (by rfl) _ _ (by rfl) w.heap.size _ (castL done) (by rfl) (hown2.out.alloc _) _ 1 1 [(a : Int)] (by rfl) rfl (one_newi _ _ _) hlen.out (by have := hb.size; simp; omega) ?_; intro v' w' hown' hb'; rw [castL_snoc] at hown'; have hown3 := Lib.hid hown'; clear hown')
          go_roundw
          case rel => exact ⟨j + 1, done ++ [a], by omega, hst, hown3.out, by go_num, (hb.alloc hb.size _).trans hb'⟩
          case measure => simp [intOf]; omega
        · obtain ⟨d, rfl⟩ : ∃ d, cc = d + 1 := ⟨cc - 1, by omega⟩
          obtain ⟨x, hx⟩ : ∃ x, nd.kids[d]? = some x := ⟨nd.kids[d]'(by rw [hmH.out]; omega), List.getElem?_eq_getElem _⟩
          obtain ⟨bk, ok, hK, hbl, hkc⟩ := hk3 (by omega)
          subst hK
          have ex := (hb.cell (p := ⟨bk, ok + d, none⟩) hbl).trans (hkc d x hx)
          have hsn := Lib.hid (backK_snoc done nd.kids d x hx a)
          have hcast : ((d + 1 : Nat) : Int) - 1 = (d : Int) := by omega
          rw [hcast]
          clear hkc hx hcast hk3
          by_cases hbad : a ≠ 0 ∧ x = (a : Int) - 1
          · obtain ⟨ha0, rfl⟩ := hbad
            obtain ⟨y, rfl⟩ : ∃ y, a = y + 1 := ⟨a - 1, by omega⟩
            obtain ⟨z, hz1, hz2, hz3⟩ := hd.out.2.2.get (j := y) (by rw [hd.out.2.1]; omega)
            have hst : Hid (backK done nd.kids.reverse done.length = backK done (nd.kids.take d).reverse z) := by
              show _ = _
              rw [hbk.out, hsn.out, if_pos ⟨by omega, rfl⟩, show y + 1 - 1 = y by omega, hz2]
            have hcy : ((y + 1 : Nat) : Int) - 1 = (y : Int) := by omega
            rw [hcy] at ex
            rcases hown2.out.open with ⟨hv0, h0⟩ | ⟨gx, cx, rfl, hgx, hgl, hc1, hc2, hcx⟩
            · have h1 := congrArg List.length h0
              rw [castL_len, hd.out.2.1] at h1
              simp at h1
              omega
            · have ey := hcx y z (castL_get hz1)
              have hlen2 : (castL done).length = j := by rw [castL_len, hd.out.2.1]
              rw [hlen2] at hc1 ⊢
              unfold maxLen at hc2
              clear hcx hz1 hz2 hcy ha0 hlen2
              go_wp2_with fail
              go_round
              case rel => exact ⟨z, d, by omega, by omega, hst, by go_num, by go_num⟩
              case measure => simp [intOf]
          · have hno : Hid (startsL l = none) := by
              show _ = _
              rw [hd.out.1, hdr.out, hbk.out, hsn.out, if_neg hbad]
            by_cases hq : x = (a : Int) - 1
            · have ha0 : a = 0 := by
                by_cases e : a = 0
                · exact e
                · exact absurd ⟨e, hq⟩ hbad
              subst ha0 hq
              go_wp2_with fail
              go_ret2
              exact RetStarts.no hno.out (FromOn.row hb.size) (hb.alloc hb.size _)
            · have hq2 : (x != (a : Int) - 1) = true := by rw [bne_iff_ne]; exact hq
              clear hbad
              go_wp2_with fail
              go_ret2
              exact RetStarts.no hno.out (FromOn.row hb.size) (hb.alloc hb.size _)
    · obtain rfl : j = n := by omega
      have hs : startsL l = some done := by
        rw [hd.out.1, List.drop_eq_nil_of_le (by rw [hnH.out]; omega)]
        rfl
      have hi := hown.ints (castL_ok hd.out.2.2 (by rw [hd.out.2.1]; omega))
      have hfin := Lib.hid (RetStarts.yes hs hi.1 hi.2 hb)
      clear hcell hs hi hown
      go_wp2_with fail
      go_ret2
      exact hfin.out
end Go.Proofs.YtlabmboedjnpmaaGreatDoor
/-! Shape2 -/
namespace Go.Proofs.YtlabmboedjnpmaaGreatDoor
open Go.RowKit
set_option linter.unusedVariables false

theorem bulk_len {l : List PNode} {k : Nat} (h : nodesBulk l ≤ k) : l.length ≤ k := by unfold nodesBulk at h; omega
theorem shapeB_size {l : List PNode} (h : inB (l.length : Int) 1 400 = false) : shapeB l = false := by
  have h1 := inB_false.1 h
  unfold shapeB sizeOk
  have : (decide (1 ≤ l.length) && decide (l.length ≤ 400)) = false := by simp; omega
  rw [this]
  rfl
theorem shapeB_none {l : List PNode} (h : startsL l = none) : shapeB l = false := by unfold shapeB; rw [h]; simp
theorem shapeB_some {l : List PNode} {s : List Nat} (hs : inB (l.length : Int) 1 400 = true) (h : startsL l = some s) : shapeB l = (s.getD (l.length - 1) 0 == 0) := by
  have h1 := inB_true.1 hs
  unfold shapeB sizeOk
  rw [h]
  have : (decide (1 ≤ l.length) && decide (l.length ≤ 400)) = true := by simp; omega
  rw [this]
  rfl
def startOfL (l : List PNode) (i : Int) : Int := if shapeB l = true ∧ 0 ≤ i ∧ i < l.length then (match startsL l with
  | some s => ((s.getD i.toNat 0 : Nat) : Int)
  | none => -1) else -1
theorem startOfL_no {l : List PNode} {i : Int} (h : ¬ (shapeB l = true ∧ 0 ≤ i ∧ i < l.length)) : startOfL l i = -1 := by unfold startOfL; rw [if_neg h]
theorem startOfL_yes {l : List PNode} {i : Nat} {s : List Nat} (h : shapeB l = true) (hi : i < l.length) (hs : startsL l = some s) : startOfL l i = ((s.getD i 0 : Nat) : Int) := by
  unfold startOfL
  rw [if_pos ⟨h, by omega, by omega⟩, hs, Int.toNat_natCast]
theorem IntsIn.cellAt {w : World} {B n c : Nat} {A : Option Addr} {l : List Int} (h : IntsIn w B (.slice A n c) l) {j : Nat} {t : Int} (ht : l[j]? = some t) :
    ∃ b off, A = some ⟨b, off, none⟩ ∧ b < B ∧ w.cell? ⟨b, off + j, none⟩ = some (.int .i64 t) := by
  obtain ⟨A', c', e, _, _, hc, _⟩ := h
  obtain ⟨rfl, _, _⟩ := Value.slice.inj e
  obtain ⟨b, off, hA, hlt, hd⟩ := hc (by have := (List.getElem?_eq_some_iff.1 ht).1; omega)
  exact ⟨b, off, hA, hlt, hd j t ht⟩
theorem s_starts_no (v : Value) (l : List PNode) (w : World) (hl : l.length ≤ 1048576) (h : NodesIn w w.heap.size v l) (hs : startsL l = none) :
    Calls Tryz.prog 42 #[v] w fun e w' => ∃ v', e = .returned (.tuple #[v', .bool false]) ∧ Below w.heap.size w w' := by
  refine (s_starts v l w hl h).mono fun e w' h2 => ?_
  obtain ⟨v', he, _, _, hb⟩ := h2
  rw [hs] at he
  exact ⟨v', he, hb⟩
theorem s_starts_yes (v : Value) (l : List PNode) (w : World) (hl : l.length ≤ 1048576) (h : NodesIn w w.heap.size v l) {s : List Nat} (hs : startsL l = some s) :
    Calls Tryz.prog 42 #[v] w fun e w' => ∃ A c, e = .returned (.tuple #[.slice A l.length c, .bool true]) ∧ l.length ≤ c ∧ c ≤ maxLen ∧ IntsIn w' w'.heap.size (.slice A l.length c) (castL s) ∧ FromOn w.heap.size (.slice A l.length c) ∧ Below w.heap.size w w' := by
  refine (s_starts v l w hl h).mono fun e w' h2 => ?_
  obtain ⟨v', he, hi, hf, hb⟩ := h2
  rw [hs] at he
  have hi := hi s hs
  have hi2 := hi
  obtain ⟨A, c, rfl, q1, q2, _⟩ := hi
  have e : (castL s).length = l.length := by rw [castL_len, (startsL_low hs).2]
  rw [e] at he hi2 hf q1
  exact ⟨A, c, he, q1, q2, hi2, hf, hb⟩
set_option maxRecDepth 100000 in
set_option maxHeartbeats 1000000 in
theorem s_shapeOk (v : Value) (l : List PNode) (w : World) (hl : l.length ≤ 1048576) (h : NodesIn w w.heap.size v l) : Calls Tryz.prog 21 #[v] w (RetBool w (shapeB l)) := by
  have g := Lib.hid h
  obtain ⟨A, c, rfl, hlc, hcm, r⟩ := h
  clear r
  unfold maxLen at hcm
  cases hs : inB (l.length : Int) 1 400
  · rw [shapeB_size hs]
    go_enter Tryz.func21, Tryz.ntmps21
    go_wp2_with (go_at_call 30; refine (s_l1In _ _ _ _).mono ?_; rintro e w' ⟨rfl, rfl⟩)
    go_ret
    exact ⟨rfl, Below.refl _ _⟩
  · have hr := inB_true.1 hs
    cases hst : startsL l with
    | none =>
      rw [shapeB_none hst]
      have hstH := Lib.hid hst
      clear hst
      go_enter Tryz.func21, Tryz.ntmps21
      go_wp2_with (first | (go_at_call 30; refine (s_l1In _ _ _ _).mono ?_; rintro e w' ⟨rfl, rfl⟩) | (go_at_call 42; refine (s_starts_no _ l _ hl g.out hstH.out).mono ?_; rintro e w1 ⟨v', rfl, hb⟩))
      go_ret
      exact ⟨rfl, hb⟩
    | some s =>
      rw [shapeB_some hs hst]
      obtain ⟨hlow, hlen⟩ := startsL_low hst
      obtain ⟨x, hx, hxd, hxl⟩ := hlow.get (j := l.length - 1) (by omega)
      rw [hxd]
      have hcx := Lib.hid (castL_get hx)
      have hstH := Lib.hid hst
      clear hst hx hxd hlow hlen hxl
      go_enter Tryz.func21, Tryz.ntmps21
      go_wp2_with (first | (go_at_call 30; refine (s_l1In _ _ _ _).mono ?_; rintro e w' ⟨rfl, rfl⟩) | (go_at_call 42; refine (s_starts_yes _ l _ hl g.out hstH.out).mono ?_; rintro e w1 ⟨A1, c1, rfl, q1, q2, hi, _, hb⟩; obtain ⟨b, off, rfl, _, hcell⟩ := hi.cellAt hcx.out; clear hi; unfold maxLen at q2))
      go_ret
      exact ⟨ret_bool (by first | rfl | (show ((x : Int) == 0) = (x == 0); rw [Bool.eq_iff_iff, beq_iff_eq, beq_iff_eq]; omega)), hb⟩
end Go.Proofs.YtlabmboedjnpmaaGreatDoor
/-! Depth -/
namespace Go.Proofs.YtlabmboedjnpmaaGreatDoor
open Go.RowKit
set_option linter.unusedVariables false

theorem maxD_le {d : List Nat} {B : Nat} (h : ∀ (j x : Nat), d[j]? = some x → x ≤ B) : ∀ ks : List Int, maxD d ks ≤ B
  | [] => Nat.zero_le _
  | k :: r => by
    have h1 := maxD_le h r
    have h2 : d.getD k.toNat 0 ≤ B := by
      rw [List.getD_eq_getElem?_getD]
      cases hk : d[k.toNat]? with
      | none => simp
      | some x => simpa using h _ x hk
    show max _ _ ≤ B
    omega
/-- each depth is at most the number of nodes up to it -/
def DepOk (d : List Nat) : Prop := ∀ (j x : Nat), d[j]? = some x → x ≤ j + 1
theorem DepOk.all {d : List Nat} (h : DepOk d) : ∀ (j x : Nat), d[j]? = some x → x ≤ d.length := fun j x hx => by
  have := h j x hx
  have := (List.getElem?_eq_some_iff.1 hx).1
  omega
theorem DepOk.snoc {d : List Nat} (h : DepOk d) (ks : List Int) : DepOk (d ++ [maxD d ks + 1]) := by
  intro j x hx
  by_cases hj : j < d.length
  · rw [List.getElem?_append_left hj] at hx; exact h j x hx
  · rw [List.getElem?_append_right (by omega)] at hx
    have hj0 : j - d.length = 0 := by
      by_cases e : j - d.length = 0
      · exact e
      · rw [List.getElem?_eq_none (by simp; omega)] at hx; cases hx
    rw [hj0] at hx
    simp at hx
    have := maxD_le h.all ks
    omega
theorem depthL_no {l : List PNode} (h : shapeB l = false) : depthL l = 0 := by unfold depthL; rw [h]; rfl
theorem depthL_yes {l : List PNode} (h : shapeB l = true) : depthL l = (depsL l).getD (l.length - 1) 0 := by unfold depthL; rw [h]; rfl
theorem castD_ok {s : List Nat} (h : DepOk s) (hl : s.length ≤ 1048576) : ∀ x ∈ castL s, okInt x := by
  intro x hx
  obtain ⟨n, hn, rfl⟩ := List.mem_map.1 hx
  obtain ⟨i, hi⟩ := List.mem_iff_getElem?.1 hn
  have := h.all i n hi
  unfold okInt
  omega
set_option maxRecDepth 100000 in
set_option maxHeartbeats 2000000 in
theorem s_depthOf (v : Value) (l : List PNode) (w : World) (hl : l.length ≤ 1048576) (h : NodesIn w w.heap.size v l) : Calls Tryz.prog 22 #[v] w (RetInt w (depthL l)) := by
  have g := Lib.hid h
  obtain ⟨A, c, rfl, hlc, hcm, hcell, hsz⟩ := h
  unfold maxLen at hcm
  clear hsz
  cases hs : shapeB l
  · rw [depthL_no hs]
    have hsH := Lib.hid hs
    clear hs hcell
    go_enter Tryz.func22, Tryz.ntmps22
    go_wp2_with (go_at_call 21; refine (s_shapeOk _ l _ hl g.out).mono ?_; rintro e w1 ⟨rfl, hb⟩; rw [hsH.out])
    go_ret
    exact ⟨rfl, hb⟩
  · obtain ⟨hl1, hl2, s, hst, h0⟩ := shapeB_parts hs
    have hkids := Lib.hid (startsL_kids hst)
    rw [depthL_yes hs]
    have hsH := Lib.hid hs
    clear hs h0 hst
    obtain ⟨R, hR⟩ : ∃ R, (depsL l).getD (l.length - 1) 0 = R := ⟨_, rfl⟩
    rw [hR]
    have hRH := Lib.hid hR
    clear hR
    obtain ⟨n, hn⟩ : ∃ n, l.length = n := ⟨_, rfl⟩
    rw [hn] at hl hlc hcell g hl1 hl2 ⊢
    have hnH := Lib.hid hn
    clear hn
    have hl3 : l.length ≤ 1048576 := by have := hnH.out; omega
    go_enter Tryz.func22, Tryz.ntmps22
    go_wp2_with (go_at_call 21; refine (s_shapeOk _ l _ hl3 g.out).mono ?_; rintro e w1 ⟨rfl, hb⟩; rw [hsH.out])
    go_loopw [3, 4] (fun x i wr => ∃ (j : Nat) (d : List Nat), j ≤ n ∧ Hid (depsL l = depsF (l.drop j) d ∧ d.length = j ∧ DepOk d) ∧ OwnI wr w.heap.size x (castL d) ∧ i = .int .i64 j ∧ Below w.heap.size w wr) (fun _ i _ => (n - (intOf i).toNat))
    case atStart => exact ⟨0, [], by omega, ⟨rfl, rfl, fun j x h => by simp at h⟩, OwnI.start w1 hb.size, by go_num, hb.alloc hb.size _⟩
    case round =>
      clear hb
      obtain ⟨j, d, hj, hd, hown, rfl, hb⟩ := hrel
      by_cases hlt : j < n
      · obtain ⟨nd, hnd⟩ : ∃ nd, l[j]? = some nd := ⟨l[j]'(by rw [hnH.out]; exact hlt), List.getElem?_eq_getElem _⟩
        obtain ⟨b, off, hA, hlt2, hc⟩ := hcell (by omega)
        subst hA
        obtain ⟨kv, e0, e1, e2, e3, e4, K, kc, rfl, hk1, hk2, hk3, hk4⟩ := hc j nd hnd
        have hk : ∀ o, wr.cell? ⟨b, o, none⟩ = w.cell? ⟨b, o, none⟩ := fun o => hb.cell (p := ⟨b, o, none⟩) hlt2
        rw [← hk] at e4
        have hkd := Lib.hid (hkids.out j nd hnd)
        have hdr := Lib.hid (depsF_drop l j nd hnd d)
        have hmx := maxD_le (DepOk.all hd.out.2.2)
        rw [hd.out.2.1] at hmx
        have hmx := Lib.hid hmx
        clear hk e0 e1 e2 e3 hk4 hc hnd hcell
        obtain ⟨m, hm⟩ : ∃ m, nd.kids.length = m := ⟨_, rfl⟩
        rw [hm] at e4 hk1 hk3
        have hmH := Lib.hid hm
        clear hm
        unfold maxLen at hk2
        have hown2 := Lib.hid hown
        go_wp2_with fail
        go_loop [5, 6] (fun p k => ∃ (cc q : Nat), cc ≤ m ∧ q ≤ j ∧ Hid (q = maxD d (nd.kids.take cc)) ∧ p = .int .i64 ((q : Int) + 1) ∧ k = .int .i64 cc) (fun _ k => (m - (intOf k).toNat))
        case atStart => exact ⟨0, 0, by omega, by omega, by show _ = _; rfl, by go_num, by go_num⟩
        case round =>
          obtain ⟨cc, q, hcc, hq, hqd, rfl, rfl⟩ := hrel
          by_cases hkl : cc < m
          · obtain ⟨x, hx⟩ : ∃ x, nd.kids[cc]? = some x := ⟨nd.kids[cc]'(by rw [hmH.out]; exact hkl), List.getElem?_eq_getElem _⟩
            obtain ⟨bk, ok, hK, hbl, hkc⟩ := hk3 (by omega)
            subst hK
            have ex := (hb.cell (p := ⟨bk, ok + cc, none⟩) hbl).trans (hkc cc x hx)
            obtain ⟨hx0, hx1⟩ := hkd.out x (List.mem_of_getElem? hx)
            obtain ⟨k, rfl⟩ := Int.eq_ofNat_of_zero_le hx0
            obtain ⟨z, hz⟩ : ∃ z, d[k]? = some z := ⟨d[k]'(by rw [hd.out.2.1]; omega), List.getElem?_eq_getElem _⟩
            have hzj : z ≤ j := by have := hd.out.2.2.all k z hz; rw [hd.out.2.1] at this; exact this
            have hst : Hid (max q z = maxD d (nd.kids.take (cc + 1))) := by
              show _ = _
              rw [maxD_take hx, ← hqd.out, Int.toNat_natCast, List.getD_eq_getElem?_getD, hz]
              rfl
            rcases hown2.out.open with ⟨hv0, h0⟩ | ⟨gx, cx, rfl, hgx, hgl, hc1, hc2, hcx⟩
            · have h1 := congrArg List.length h0
              rw [castL_len, hd.out.2.1] at h1
              simp at h1
              omega
            · have ey := hcx k z (castL_get hz)
              have hlen2 : (castL d).length = j := by rw [castL_len, hd.out.2.1]
              rw [hlen2] at hc1 ⊢
              unfold maxLen at hc2
              clear hcx hz hx hkc hk3 hlen2
              go_wp2_with fail
              go_round
              case rel =>
                refine ⟨cc + 1, max q z, by omega, by omega, hst, ?_, by go_num⟩
                congr 1
                split <;> omega
              case measure => simp [intOf]; omega
          · obtain rfl : cc = m := by omega
            have hqf : q = maxD d nd.kids := by rw [hqd.out, List.take_of_length_le (by rw [hmH.out]; omega)]
            have hst : Hid (depsL l = depsF (l.drop (j + 1)) (d ++ [q + 1]) ∧ (d ++ [q + 1]).length = j + 1 ∧ DepOk (d ++ [q + 1])) := by
              rw [hqf]
              exact ⟨hd.out.1.trans hdr.out, by simp [hd.out.2.1], hd.out.2.2.snoc _⟩
            have hlen : Hid ((castL d).length + 1 ≤ 16777216) := by
              show _ ≤ _
              rw [castL_len, hd.out.2.1]
              omega
            have hcs : Hid (castL d ++ [(q : Int) + 1] = castL (d ++ [q + 1])) := by
              show _ = _
              rw [← castL_snoc]
              rfl
            clear hqf
            go_wp2_with (at_builtin; refine app_ints (by rfl) _ _ (by rfl) w.heap.size _ (castL d) (by rfl) (hown2.out.alloc _) _ 1 1 [(q : Int) + 1] (by rfl) rfl (one_newi _ _ _) hlen.out (by have := hb.size; simp; omega) ?_; intro v' w' hown' hb'; rw [hcs.out] at hown'; have hown3 := Lib.hid hown'; clear hown')
            go_roundw
            case rel => exact ⟨j + 1, d ++ [q + 1], by omega, hst, hown3.out, by go_num, (hb.alloc hb.size _).trans hb'⟩
            case measure => simp [intOf]; omega
      · obtain rfl : j = n := by omega
        have hdL : depsL l = d := by
          rw [hd.out.1, List.drop_eq_nil_of_le (by rw [hnH.out]; omega)]
          rfl
        obtain ⟨z, hz⟩ : ∃ z, d[j - 1]? = some z := ⟨d[j - 1]'(by rw [hd.out.2.1]; omega), List.getElem?_eq_getElem _⟩
        have hRz : R = z := by
          rw [← hRH.out, hdL, hnH.out, List.getD_eq_getElem?_getD, hz]
          rfl
        subst hRz
        rcases hown.open with ⟨hv0, h0⟩ | ⟨gx, cx, rfl, hgx, hgl, hc1, hc2, hcx⟩
        · have h1 := congrArg List.length h0
          rw [castL_len, hd.out.2.1] at h1
          simp at h1
          omega
        · have ey := hcx (j - 1) R (castL_get hz)
          have hlen2 : (castL d).length = j := by rw [castL_len, hd.out.2.1]
          rw [hlen2] at hc1 ⊢
          unfold maxLen at hc2
          clear hcx hz hlen2 hcell hdL hown
          go_wp2_with fail
          go_ret
          exact ⟨rfl, hb⟩
end Go.Proofs.YtlabmboedjnpmaaGreatDoor
