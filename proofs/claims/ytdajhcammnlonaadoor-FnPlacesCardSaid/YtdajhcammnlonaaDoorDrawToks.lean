/- The draw of tokens that may stand so, mostly (walk). -/
import Derived.Test.YtdajhcammnlonaaDoorDrawTok
import Derived.Test.YtdajhcammnlonaaDoorOwnT
import Derived.Test.YtdajhcammnlonaaDoorLexFrom
import Derived.Maps.AppendAt
import Derived.Deep.DeepCutAuto
import Derived.Deep.CutBlock
namespace Go.Proofs.YtdajhcammnlonaaDoor
open Go.RowKit
set_option linter.unusedVariables false
theorem OwnT.away {w w' : World} {base g : Nat} {v : Value} {l : List PTok} (h : OwnT w base v l) (ha : Away g w w') (hg : g < base) : OwnT w' base v l := by
  obtain ⟨h1, h2⟩ := h
  refine ⟨h1, ?_⟩
  rcases h2 with h2 | ⟨k, cap, cur, hv, hb, hh, r⟩
  · exact Or.inl h2
  · have hk : k < w.heap.size := (show Has w k _ cur from hh).lt
    exact Or.inr ⟨k, cap, cur, hv, hb, (ha.block k hk (by omega)).trans hh, r⟩
theorem OwnT.setO {w : World} {base b o : Nat} {v : Value} {l : List PTok} (h : OwnT w base v l) (hne : some b ≠ v.ownBlock) (u : Value) : OwnT (w.setCell ⟨b, o, none⟩ u) base v l := by
  obtain ⟨h1, h2⟩ := h
  refine ⟨h1, ?_⟩
  rcases h2 with h2 | ⟨k, cap, cur, rfl, hb, hh, r⟩
  · exact Or.inl h2
  · exact Or.inr ⟨k, cap, cur, rfl, hb, (Below.heap_setCell w ⟨b, o, none⟩ u k (fun e => hne (by rw [show b = k from e.symm]; rfl))).trans hh, r⟩
theorem OwnT.form {w : World} {base : Nat} {v : Value} {l : List PTok} (h : OwnT w base v l) : ∃ A cap, v = .slice A l.length cap ∧ l.length ≤ cap ∧ cap ≤ maxLen ∧ (0 < l.length → ∃ b, A = some ⟨b, 0, none⟩ ∧ base ≤ b ∧ ∃ cur, Has w b 36 cur ∧ cur.size = cap * 3 ∧ ∀ (i : Nat) (x : Value), (tokCells l)[i]? = some x → cur[i]? = some x) := by
  obtain ⟨_, h2⟩ := h
  rcases h2 with ⟨rfl, h0⟩ | ⟨g, cap, cur, rfl, hb, hh, q1, q2, hsz, htk⟩
  · exact ⟨none, 0, by rw [h0], by omega, by unfold maxLen; omega, fun h => by omega⟩
  · refine ⟨_, cap, rfl, q1, q2, fun _ => ⟨g, rfl, hb, cur, hh, hsz, fun i x hx => ?_⟩⟩
    have hi := (List.getElem?_eq_some_iff.1 hx).1
    rw [tokCells_len] at hi
    have h3 : (cur.toList.take (l.length * 3))[i]? = (tokCells l)[i]? := by rw [htk]
    rw [List.getElem?_take_of_lt hi, Array.getElem?_toList, hx] at h3
    exact h3
theorem one_newt_at (w : World) (n : Nat) (hn : w.heap.size = n) (t : PTok) (e : TypeId) : ∀ j b, (tokCells [t])[j]? = some b → (w.alloc (.cells #[.int .i64 t.kind, .string t.text, .int .i64 t.at_] e)).cell? ⟨n, j, none⟩ = some b := by
  subst hn
  exact one_newt w t e
theorem app_tok_at {ops : Array Oper} {rest : List Oper} {o : Oper} {a : Act} {Q : Exit → Act → World → Prop} {w : World} (hgd : o.guard = none) (s x : Operand)
    (ho : o.op = .call { callee := .builtin .append, args := #[s, x], argTypes := #[46, 46] }) (base : Nat) (v : Value) (l : List PTok) (hs : a.eval s = v) (hown : OwnT w base v l)
    (g c : Nat) (t : PTok) (hx : a.eval x = .slice (some ⟨g, 0, none⟩) 1 c) (hnew : ∀ j b, (tokCells [t])[j]? = some b → w.cell? ⟨g, j, none⟩ = some b)
    (hsz : l.length + 1 ≤ 1048576) (hbase : base ≤ w.heap.size)
    (h : ∀ v' w', OwnT w' base v' (l ++ [t]) → Below base w w' → w.grownBy w' v.ownBlock → (v'.ownBlock = v.ownBlock ∨ v'.ownBlock = some w.heap.size) → wpList Tryd.prog ops Q rest (a.put o.dst v') w') : wpList Tryd.prog ops Q (o :: rest) a w := by
  obtain ⟨i0, hi, hz0, hz1, hz2⟩ := info_parts info_tok
  refine wpList_append_own_at w hgd s x 46 ho base 36 i0 _ 3 32 Tryd.underlying46 hi hz0 hz1 hz2 rfl (by decide) v l.length _ hs hown ⟨g, 0, none⟩ 1 c (tokCells [t]) hx rfl ?_ ?_ (by unfold maxLen; omega) (by omega) hbase ?_
  · intro j u hu
    have e : (⟨g, 0, none⟩ : Addr).add j = ⟨g, j, none⟩ := by unfold Addr.add; split <;> simp_all
    rw [e]
    exact hnew j u hu
  · intro u hu
    simp [tokCells] at hu
    rcases hu with rfl | rfl | rfl <;> rfl
  · intro v' w' h2 h3 _ h5
    refine h v' w' ?_ ?_ h3 h5
    · unfold OwnT
      rw [List.length_append, tokCells_app]
      exact h2
    · exact (Below.refl base w).grown h3 hbase (fun k hk => (hown.lt k hk).1)
theorem tokCells_extD {l : List PTok} {cur : List Value} (hs : l.length * 3 ≤ cur.length) (h : ∀ i t, l[i]? = some t → cur[i * 3]? = some (.int .i64 t.kind) ∧ cur[i * 3 + 1]? = some (.string t.text) ∧ cur[i * 3 + 2]? = some (.int .i64 t.at_)) : cur.take (l.length * 3) = tokCells l := by
  induction l generalizing cur with
  | nil => simp [tokCells]
  | cons t l ih =>
    obtain ⟨a, b, c, r, rfl⟩ : ∃ a b c r, cur = a :: b :: c :: r := by
      match cur, hs with
      | a :: b :: c :: r, _ => exact ⟨a, b, c, r, rfl⟩
      | [], hs => simp at hs
      | [_], hs => simp at hs; omega
      | [_, _], hs => simp at hs; omega
    obtain ⟨h0, h1, h2⟩ := h 0 t rfl
    simp at h0 h1 h2
    subst h0 h1 h2
    have e : (t :: l).length * 3 = l.length * 3 + 3 := by simp only [List.length_cons]; omega
    rw [e]
    simp only [List.take_succ_cons, tokCells]
    rw [ih (by simp only [List.length_cons] at hs; omega) (fun i u hu => ?_)]
    obtain ⟨g0, g1, g2⟩ := h (i + 1) u (by simpa using hu)
    have e1 : (i + 1) * 3 = i * 3 + 3 := by omega
    rw [e1] at g0 g1 g2
    exact ⟨by simpa using g0, by rw [show i * 3 + 3 + 1 = i * 3 + 1 + 3 by omega] at g1; simpa using g1, by rw [show i * 3 + 3 + 2 = i * 3 + 2 + 3 by omega] at g2; simpa using g2⟩
theorem OwnT.setAt {w : World} {base b cap : Nat} {cs : Array Value} {l : List PTok} (hg : base ≤ b) (h : Has w b 36 cs) (hc : l.length ≤ cap) (hm : cap ≤ maxLen) (hs : cs.size = cap * 3) (hf : ∀ (i : Nat) (x : Value), (tokCells l)[i]? = some x → cs[i]? = some x) {j : Nat} (hj : j < l.length) (t : PTok) :
    OwnT (set3 w b (j * 3) (.int .i64 t.kind) (.string t.text) (.int .i64 t.at_)) base (.slice (some ⟨b, 0, none⟩) l.length cap) (l.set j t) := by
  have hl : (l.set j t).length = l.length := List.length_set
  refine ⟨by rw [tokCells_len], .inr ⟨b, cap, _, by rw [hl], hg, h.set3 _ _ _ _, by rw [hl]; exact hc, hm, by rw [put3_size]; exact hs, ?_⟩⟩
  refine tokCells_extD (by
    rw [hl]
    have e := (Array.length_toList (xs := put3 cs (j * 3) (.int .i64 t.kind) (.string t.text) (.int .i64 t.at_))).trans ((put3_size _ _ _ _ _).trans hs)
    omega) (fun i u hu => ?_)
  simp only [Array.getElem?_toList]
  by_cases e : i = j
  · subst e
    rw [List.getElem?_set_self hj] at hu
    obtain rfl := Option.some.inj hu
    exact put3_at cs (i * 3) _ _ _ (by omega)
  · rw [List.getElem?_set_ne (fun q => e q.symm)] at hu
    obtain ⟨e0, e1, e2⟩ := tokCells_get hu
    refine ⟨?_, ?_, ?_⟩
    · rw [put3_other _ _ _ _ _ _ (by omega)]; exact hf _ _ e0
    · rw [put3_other _ _ _ _ _ _ (by omega)]; exact hf _ _ e1
    · rw [put3_other _ _ _ _ _ _ (by omega)]; exact hf _ _ e2
theorem OwnT.at_ {w : World} {base L cap : Nat} {A : Option Addr} {l : List PTok} (h : OwnT w base (.slice A L cap) l) (hL : 0 < L) : l.length = L ∧ L ≤ cap ∧ cap ≤ maxLen ∧ ∃ b, A = some ⟨b, 0, none⟩ ∧ base ≤ b ∧ ∃ cur, Has w b 36 cur ∧ cur.size = cap * 3 ∧ ∀ (i : Nat) (x : Value), (tokCells l)[i]? = some x → cur[i]? = some x := by
  obtain ⟨A', cap', e, h1, h2, h3⟩ := h.form
  injection e with e1 e2 e3
  subst e1 e2 e3
  exact ⟨rfl, h1, h2, h3 hL⟩
theorem drawn_set {l : List PTok} {t : PTok} (h : ∀ t ∈ l, drawnTok t) (ht : drawnTok t) (j : Nat) : ∀ x ∈ l.set j t, drawnTok x := by
  intro x hx
  rcases List.mem_or_eq_of_mem_set hx with hx | rfl
  · exact h x hx
  · exact ht
def RetToksD (w : World) (g : Nat) (cs : List UInt8) (m : Nat) (e : Ending) (w' : World) : Prop := ∃ v l s', e = .returned v ∧ ToksIn w' w'.heap.size v l ∧ FromOn w.heap.size v ∧ (∀ t ∈ l, drawnTok t) ∧ l.length ≤ 2 * m ∧ Cur w' g cs s' ∧ Away g w w'
theorem drawn_all {l : List PTok} {t : PTok} (h : ∀ t ∈ l, drawnTok t) (ht : drawnTok t) : ∀ x ∈ l ++ [t], drawnTok x := by
  intro x hx
  rcases List.mem_append.1 hx with hx | hx
  · exact h x hx
  · obtain rfl := List.mem_singleton.1 hx
    exact ht
theorem drawn_ok {l : List PTok} (h : ∀ t ∈ l, drawnTok t) : ∀ t ∈ l, okInt t.kind ∧ t.text.size ≤ maxLen ∧ okInt t.at_ := fun t ht => by
  obtain ⟨h1, h2, h3⟩ := h t ht
  unfold okInt maxLen
  omega
def noteS : List ByteArray := [⟨#[35]⟩, ⟨#[35, 32, 97]⟩, ⟨#[35, 34, 120]⟩]
theorem noteS_size : ∀ x ∈ noteS, x.size ≤ 16 := by decide
/-- Behind the switch: the row, the token at hand, the cursor. -/
def MidD (w : World) (g : Nat) (cs : List UInt8) (b n : Nat) (v : Value) (wx : World) : Prop := ∃ (l : List PTok) (t : PTok) (s' : Nat × Int), l.length ≤ n ∧ Hid (∀ t ∈ l, drawnTok t) ∧ Hid (drawnTok t) ∧ Hid (OwnT wx w.heap.size v l) ∧ Hid (some b ≠ v.ownBlock) ∧ Hid (Has wx b 36 #[.int .i64 t.kind, .string t.text, .int .i64 0]) ∧ Hid (Cur wx g cs s') ∧ Hid (Away g w wx)
/-- The same, the row and the token given. -/
def AtD (w : World) (g : Nat) (cs : List UInt8) (b : Nat) (l : List PTok) (t : PTok) (v : Value) (wx : World) : Prop := ∃ (s' : Nat × Int), Hid (OwnT wx w.heap.size v l) ∧ Hid (some b ≠ v.ownBlock) ∧ Hid (Has wx b 36 #[.int .i64 t.kind, .string t.text, .int .i64 0]) ∧ Hid (Cur wx g cs s') ∧ Hid (Away g w wx)
theorem AtD.mid {w : World} {g : Nat} {cs : List UInt8} {b n : Nat} {l : List PTok} {t : PTok} {v : Value} {wx : World} (h : AtD w g cs b l t v wx) (hn : l.length ≤ n) (h1 : ∀ t ∈ l, drawnTok t) (h2 : drawnTok t) : MidD w g cs b n v wx := by
  obtain ⟨s', a, b', c, d, e⟩ := h
  exact ⟨l, t, s', hn, h1, h2, a, b', c, d, e⟩
theorem Has.setTok {w : World} {b : Nat} {T : TypeId} {x0 x1 x2 : Value} (h : Has w b T #[x0, x1, x2]) (y0 y1 y2 : Value) : Has (((w.setCell ⟨b, 0, none⟩ y0).setCell ⟨b, 1, none⟩ y1).setCell ⟨b, 2, none⟩ y2) b T #[y0, y1, y2] := by
  simpa using ((h.set 0 y0).set 1 y1).set 2 y2
theorem AtD.setTok {w : World} {g : Nat} {cs : List UInt8} {b : Nat} {l : List PTok} {t : PTok} {v : Value} {wx : World} (h : AtD w g cs b l t v wx) (hb : w.heap.size ≤ b) (hg : g < w.heap.size) (u : PTok) : AtD w g cs b l u v (((wx.setCell ⟨b, 0, none⟩ (.int .i64 u.kind)).setCell ⟨b, 1, none⟩ (.string u.text)).setCell ⟨b, 2, none⟩ (.int .i64 0)) := by
  obtain ⟨s', h1, h2, h3, h4, h5⟩ := h
  have hB : Below w.heap.size wx (((wx.setCell ⟨b, 0, none⟩ (.int .i64 u.kind)).setCell ⟨b, 1, none⟩ (.string u.text)).setCell ⟨b, 2, none⟩ (.int .i64 0)) := (((Below.refl _ _).setCell (p := ⟨b, _, none⟩) hb _).setCell (p := ⟨b, _, none⟩) hb _).setCell (p := ⟨b, _, none⟩) hb _
  exact ⟨s', ((h1.out.setO h2.out _).setO h2.out _).setO h2.out _, h2, h3.out.setTok _ _ _, h4.out.keep hB hg, h5.out.then_below hB⟩
theorem AtD.away {w : World} {g : Nat} {cs : List UInt8} {b : Nat} {l : List PTok} {t : PTok} {v : Value} {wx wy : World} (h : AtD w g cs b l t v wx) {s' : Nat × Int} (hc : Cur wy g cs s') (ha : Away g wx wy) (hb : w.heap.size ≤ b) (hg : g < w.heap.size) : AtD w g cs b l t v wy := by
  obtain ⟨_, h1, h2, h3, h4, h5⟩ := h
  exact ⟨s', h1.out.away ha hg, h2, ha.has h3.out (by omega), hc, h5.out.trans ha⟩
theorem AtD.alloc {w : World} {g : Nat} {cs : List UInt8} {b : Nat} {l : List PTok} {t : PTok} {v : Value} {wx : World} (h : AtD w g cs b l t v wx) (o : Obj) : AtD w g cs b l t v (wx.alloc o) := by
  obtain ⟨s', h1, h2, h3, h4, h5⟩ := h
  exact ⟨s', h1.out.alloc o, h2, h3.out.alloc o, h4.out.alloc o, h5.out.alloc o⟩
theorem AtD.setKind {w : World} {g : Nat} {cs : List UInt8} {b : Nat} {l : List PTok} {t : PTok} {v : Value} {wx : World} (h : AtD w g cs b l t v wx) (hb : w.heap.size ≤ b) (hg : g < w.heap.size) (k : Int) : AtD w g cs b l ⟨k, t.text, 0⟩ v (wx.setCell ⟨b, 0, none⟩ (.int .i64 k)) := by
  obtain ⟨s', h1, h2, h3, h4, h5⟩ := h
  have hB : Below w.heap.size wx (wx.setCell ⟨b, 0, none⟩ (.int .i64 k)) := (Below.refl _ _).setCell (p := ⟨b, _, none⟩) hb _
  exact ⟨s', h1.out.setO h2.out _, h2, Lib.hid (by simpa using h3.out.set 0 (.int .i64 k)), h4.out.keep hB hg, h5.out.then_below hB⟩
theorem AtD.app {w : World} {g : Nat} {cs : List UInt8} {b : Nat} {l l' : List PTok} {t : PTok} {v v' : Value} {wx wy : World} (h : AtD w g cs b l t v wx) (hg : g < w.heap.size) (ho : OwnT wy w.heap.size v' l') (hB : Below w.heap.size wx wy) (hgr : wx.grownBy wy v.ownBlock) (hat : v'.ownBlock = v.ownBlock ∨ v'.ownBlock = some wx.heap.size) : AtD w g cs b l' t v' wy := by
  obtain ⟨s', h1, h2, h3, h4, h5⟩ := h
  have hb := h3.out.lt
  refine ⟨s', ho, ?_, h3.out.grown hgr h2.out, h4.out.keep hB hg, h5.out.then_below hB⟩
  rcases hat with e | e
  · intro q
    exact h2.out (q.trans e)
  · intro q
    have q2 := Option.some.inj (q.trans e)
    omega
theorem AtD.made {w : World} {g : Nat} {cs : List UInt8} {l : List PTok} {v : Value} {wx : World} {s' : Nat × Int} (hc : Cur wx g cs s') (ho : OwnT wx w.heap.size v l) (ha : Away g w wx) (t : PTok) : AtD w g cs wx.heap.size l t v (wx.alloc (.cells #[.int .i64 t.kind, .string t.text, .int .i64 0] 36)) :=
  ⟨s', ho.alloc _, ho.apart (Or.inr (Nat.le_refl _)), Has.made _ _ _, hc.alloc _, ha.alloc _⟩
theorem AtD.own {w : World} {g : Nat} {cs : List UInt8} {b : Nat} {l : List PTok} {t : PTok} {v : Value} {wx : World} (h : AtD w g cs b l t v wx) : OwnT wx w.heap.size v l := by
  obtain ⟨s', h1, h2, h3, h4, h5⟩ := h
  exact h1.out
theorem AtD.has {w : World} {g : Nat} {cs : List UInt8} {b : Nat} {l : List PTok} {t : PTok} {v : Value} {wx : World} (h : AtD w g cs b l t v wx) : Has wx b 36 #[.int .i64 t.kind, .string t.text, .int .i64 0] := by
  obtain ⟨s', h1, h2, h3, h4, h5⟩ := h
  exact h3.out
theorem AtD.cur {w : World} {g : Nat} {cs : List UInt8} {b : Nat} {l : List PTok} {t : PTok} {v : Value} {wx : World} (h : AtD w g cs b l t v wx) : ∃ s', Cur wx g cs s' := by
  obtain ⟨s', h1, h2, h3, h4, h5⟩ := h
  exact ⟨s', h4.out⟩
set_option maxRecDepth 100000 in
set_option maxHeartbeats 16000000 in
theorem d_tokens (g : Nat) (cs : List UInt8) (s : Nat × Int) (m : Nat) (w : World) (hm : m ≤ 100) (hc : Cur w g cs s) : Calls Tryd.prog 98 #[.pointer (some ⟨g, 0, none⟩), .int .i64 m] w (RetToksD w g cs m) := by
  have hlt := hc.lt
  have hc0 := Lib.hid (hc.alloc (.cells #[] 36))
  have hO0 := Lib.hid (OwnT.start w (Nat.le_refl w.heap.size))
  have hA0 := Lib.hid ((Away.refl g w).alloc (.cells #[] 36))
  clear hc
  go_enter Tryd.func98, Tryd.ntmps98
  go_wp2_with fail
  refine (d_below _ _ _ _ _ (by omega) hc0.out).mono ?_
  rintro e w1 ⟨rfl, hc1, ha1⟩
  have hq := belowD_lt cs (show (0 : Int) < (m : Int) + 1 by omega) s
  obtain ⟨q0, hq0⟩ : ∃ q : Nat, belowD cs ((m : Int) + 1) s = (q : Int) := Int.eq_ofNat_of_zero_le hq.1
  rw [hq0] at hq ⊢
  clear hq0
  have hO1 := Lib.hid (hO0.out.away ha1 hlt)
  have hA1 := Lib.hid (hA0.out.trans ha1)
  have hc1 := Lib.hid hc1
  clear ha1
  go_wp2_with fail
  go_loopw [5, 6] (fun v x wr => ∃ (l : List PTok) (q : Nat) (s' : Nat × Int), l.length + 2 * q ≤ 2 * m ∧ x = .int .i64 q ∧ Hid (∀ t ∈ l, drawnTok t) ∧ Hid (OwnT wr w.heap.size v l) ∧ Hid (Cur wr g cs s') ∧ Hid (Away g w wr)) (fun _ x _ => (intOf x).toNat)
  case atStart => exact ⟨[], q0, _, by simp; omega, rfl, (fun t ht => by cases ht), hO1, hc1, hA1⟩
  case round =>
    obtain ⟨l, q, s', hl, rfl, hall, hO, hc3, hA3⟩ := hrel
    by_cases h0 : q = 0
    · subst h0
      obtain ⟨A, cap, rfl, hcap, hcm, hrow⟩ := hO.out.form
      unfold maxLen at hcm
      obtain ⟨L, hLL⟩ : ∃ L, l.length = L := ⟨_, rfl⟩
      rw [hLL] at hcap hrow hO hl ⊢
      clear hrow
      go_upto_region 19 with fail
      go_cut [89] (fun s89 wx => ∃ s', Hid (Cur wx g cs s') ∧ Hid (OwnT wx w.heap.size (.slice A L cap) l) ∧ Hid (Away g w wx) ∧ ∃ B : Bool, s89 = .bool B ∧ (B = true → 0 < L))
      case first =>
        rcases Nat.eq_zero_or_pos L with h | h
        · subst h
          go_wp2_with fail
          go_meet
          exact ⟨_, hc3, hO, hA3, _, rfl, by simp⟩
        · obtain ⟨n, rfl⟩ : ∃ n, L = n + 1 := ⟨L - 1, by omega⟩
          go_wp2_with fail
          refine (d_once _ _ _ _ _ (by omega) hc3.out).mono ?_
          rintro e w5 ⟨rfl, hc5, ha5⟩
          obtain ⟨B, hB⟩ : ∃ B, (belowD cs 10 s' == 0) = B := ⟨_, rfl⟩
          rw [hB]
          clear hB
          have hO5 := Lib.hid (hO.out.away ha5 hlt)
          have hA5 := Lib.hid (hA3.out.trans ha5)
          have hc5 := Lib.hid hc5
          clear ha5
          go_wp2_with fail
          go_meet
          exact ⟨_, hc5, hO5, hA5, _, rfl, fun _ => h⟩
      case rest =>
      clear hc3 hO hA3
      obtain ⟨s6, hc6, hO6, hA6, B, rfl, hB⟩ := hcut
      cases B
      · clear hB
        go_wp2_with fail
        exact bodyPost_ret (v := .slice A L cap) (by simp [results, Tryd.results98, go_sem]) rfl ⟨_, l, s6, rfl, (hO6.out.toks (drawn_ok hall.out)).1, (hO6.out.toks (drawn_ok hall.out)).2, hall.out, by omega, hc6.out, hA6.out⟩
      · obtain ⟨n, rfl⟩ : ∃ n, L = n + 1 := ⟨L - 1, by have := hB rfl; omega⟩
        clear hB
        go_wp2_with fail
        refine (d_below _ _ _ _ _ (by omega) hc6.out).mono ?_
        rintro e w7 ⟨rfl, hc7, ha7⟩
        have hj := belowD_lt cs (show (0 : Int) < (n : Int) + 1 by omega) s6
        obtain ⟨j, hjj⟩ : ∃ j : Nat, belowD cs ((n : Int) + 1) s6 = (j : Int) := Int.eq_ofNat_of_zero_le hj.1
        first | rw [hjj] at hj ⊢ | (push_cast; rw [hjj] at hj ⊢)
        clear hjj
        have hO7 := Lib.hid (hO6.out.away ha7 hlt)
        have hA7 := Lib.hid (hA6.out.trans ha7)
        have hc7 := Lib.hid hc7
        clear ha7
        go_wp2_with fail
        refine (d_token _ _ _ _ hc7.out).mono ?_
        rintro e w8 ⟨⟨k, x, at_⟩, s8, ⟨hk, hx, hat⟩, rfl, hc8, ha8⟩
        dsimp only at hk hx hat
        subst hat
        have hO8 := hO7.out.away ha8 hlt
        have hA8 := Lib.hid (hA7.out.trans ha8)
        have hc8 := Lib.hid hc8
        clear ha8
        obtain ⟨_, hLc, hcm8, b, rfl, hbb, cur, hcur, hcsz, hcells⟩ := hO8.at_ (by omega)
        have hjn : j < n + 1 := by omega
        have hcurH := Lib.hid hcur
        have hcellsH := Lib.hid hcells
        have hcszH := Lib.hid hcsz
        obtain ⟨v0, y0⟩ := hcur.there (i := j * 3) (by omega)
        obtain ⟨v1, y1⟩ := hcur.there (i := j * 3 + 1) (by omega)
        obtain ⟨v2, y2⟩ := hcur.there (i := j * 3 + 2) (by omega)
        have f0 : w8.frozen? ⟨b, j * 3, none⟩ = _ := hcur.free _
        have f1 : w8.frozen? ⟨b, j * 3 + 1, none⟩ = _ := hcur.free _
        have f2 : w8.frozen? ⟨b, j * 3 + 2, none⟩ = _ := hcur.free _
        clear hcur hcells hcsz hO8
        go_wp2_with fail
        have hB9 : Below w.heap.size w8 (set3 w8 b (j * 3) (.int .i64 k) (.string x) (.int .i64 0)) := below_set3 (Below.refl _ _) hbb _ _ _ _
        have hO9 : OwnT (set3 w8 b (j * 3) (.int .i64 k) (.string x) (.int .i64 0)) w.heap.size (.slice (some ⟨b, 0, none⟩) (n + 1) cap) (l.set j ⟨k, x, 0⟩) := by
          have := OwnT.setAt hbb hcurH.out (l := l) (by omega) hcm8 hcszH.out hcellsH.out (j := j) (by omega) ⟨k, x, 0⟩
          rw [hLL] at this
          exact this
        have hall9 := drawn_set hall.out (t := ⟨k, x, 0⟩) ⟨hk, hx, rfl⟩ j
        exact bodyPost_ret (v := .slice (some ⟨b, 0, none⟩) (n + 1) cap) (by simp [results, Tryd.results98, go_sem]) rfl ⟨_, l.set j ⟨k, x, 0⟩, s8, rfl, (hO9.toks (drawn_ok hall9)).1, (hO9.toks (drawn_ok hall9)).2, hall9, by rw [List.length_set]; omega, hc8.out.keep hB9 hlt, hA8.out.then_below hB9⟩
    · obtain ⟨p, rfl⟩ : ∃ p, q = p + 1 := ⟨q - 1, by omega⟩
      obtain ⟨A, cap, rfl, hcap, hcm, hrow⟩ := hO.out.form
      unfold maxLen at hcm
      obtain ⟨L, hLL⟩ : ∃ L, l.length = L := ⟨_, rfl⟩
      rw [hLL] at hcap hrow hO hl ⊢
      go_upto_if 20 with fail
      go_cut [7] (fun s7 wx => wx = wr ∧ ∃ b : Int, s7 = .int .i64 b)
      case first =>
        rcases Nat.eq_zero_or_pos L with h | h
        · subst h
          clear hrow
          go_wp2_with fail
          go_meet
          exact ⟨rfl, 0, rfl⟩
        · obtain ⟨n, rfl⟩ : ∃ n, L = n + 1 := ⟨L - 1, by omega⟩
          obtain ⟨b, rfl, hbb, cur, hcur, hcsz, hcells⟩ := hrow (by omega)
          obtain ⟨lt, hlt2⟩ : ∃ lt, l[n]? = some lt := ⟨l[n]'(by omega), List.getElem?_eq_getElem _⟩
          have hcl := hcur.get (hcells _ _ (tokCells_get hlt2).1)
          obtain ⟨lk, hlk⟩ : ∃ lk, lt.kind = lk := ⟨_, rfl⟩
          rw [hlk] at hcl
          clear hrow hcur hcsz hcells hlt2 hlk
          go_wp2_with fail
          go_meet
          exact ⟨rfl, _, rfl⟩
      case rest =>
      obtain ⟨rfl, last, rfl⟩ := hcut
      have hO := hO.out
      generalize Value.slice A L cap = v at hO ⊢
      have hO := Lib.hid hO
      clear hrow hcap hcm
      go_wp2_with fail
      refine (d_token _ _ _ _ hc3.out).mono ?_
      rintro e w4 ⟨⟨k, x, at_⟩, s4, ⟨hk, hx, hat⟩, rfl, hc4, ha4⟩
      dsimp only at hk hx hat
      subst hat
      have hle : w.heap.size ≤ w4.heap.size := Nat.le_trans hA3.out.size ha4.size
      have hd4 := Lib.hid (show drawnTok ⟨k, x, 0⟩ from ⟨hk, hx, rfl⟩)
      have hD4 : Hid (AtD w g cs w4.heap.size l ⟨k, x, 0⟩ v (w4.alloc (.cells #[.int .i64 k, .string x, .int .i64 0] 36))) := AtD.made hc4 (hO.out.away ha4 hlt) (hA3.out.trans ha4) ⟨k, x, 0⟩
      have hN4 : Hid (AtD w g cs w4.heap.size l ⟨1, ⟨#[10]⟩, 0⟩ v (w4.alloc (.cells #[.int .i64 1, .string ⟨#[10]⟩, .int .i64 0] 36))) := AtD.made hc4 (hO.out.away ha4 hlt) (hA3.out.trans ha4) ⟨1, ⟨#[10]⟩, 0⟩
      clear ha4
      go_upto_block 2 with fail
      go_cut [5] (fun s5 wx => MidD w g cs w4.heap.size (L + 1) s5 wx)
      case first =>
        go_upto_region 9 with fail
        go_cut [30] (fun s30 wx => wx = (w4.alloc (.cells #[.int .i64 k, .string x, .int .i64 0] 36)) ∧ ∃ B : Bool, s30 = .bool B)
        case first =>
          cases hE : endsB last
          · by_cases k5 : k = 5
            · subst k5
              go_wp2_with (go_at_call 101; refine (s_ends _ _).mono ?_; rintro e wE ⟨rfl, rfl⟩; rw [hE])
              go_meet
              exact ⟨rfl, _, rfl⟩
            by_cases k58 : k = 58
            · subst k58
              go_wp2_with (go_at_call 101; refine (s_ends _ _).mono ?_; rintro e wE ⟨rfl, rfl⟩; rw [hE])
              go_meet
              exact ⟨rfl, _, rfl⟩
            by_cases k41 : k = 41
            · subst k41
              go_wp2_with (go_at_call 101; refine (s_ends _ _).mono ?_; rintro e wE ⟨rfl, rfl⟩; rw [hE])
              go_meet
              exact ⟨rfl, _, rfl⟩
            have e5 : (k == 5) = false := by simpa using k5
            have e58 : (k == 58) = false := by simpa using k58
            have e41 : (k == 41) = false := by simpa using k41
            clear k5 k58 k41
            go_wp2_with fail
            go_meet
            exact ⟨rfl, _, rfl⟩
          · by_cases k5 : k = 5
            · subst k5
              go_wp2_with (go_at_call 101; refine (s_ends _ _).mono ?_; rintro e wE ⟨rfl, rfl⟩; rw [hE])
              go_meet
              exact ⟨rfl, _, rfl⟩
            by_cases k58 : k = 58
            · subst k58
              go_wp2_with (go_at_call 101; refine (s_ends _ _).mono ?_; rintro e wE ⟨rfl, rfl⟩; rw [hE])
              go_meet
              exact ⟨rfl, _, rfl⟩
            by_cases k41 : k = 41
            · subst k41
              go_wp2_with (go_at_call 101; refine (s_ends _ _).mono ?_; rintro e wE ⟨rfl, rfl⟩; rw [hE])
              go_meet
              exact ⟨rfl, _, rfl⟩
            have e5 : (k == 5) = false := by simpa using k5
            have e58 : (k == 58) = false := by simpa using k58
            have e41 : (k == 41) = false := by simpa using k41
            clear k5 k58 k41
            go_wp2_with fail
            go_meet
            exact ⟨rfl, _, rfl⟩
        case rest =>
        obtain ⟨rfl, B, rfl⟩ := hcut
        cases B
        · go_upto_region 11 with fail
          go_cut [54] (fun s54 wx => AtD w g cs w4.heap.size l ⟨k, x, 0⟩ v wx ∧ ∃ B : Bool, s54 = .bool B)
          case first =>
            obtain ⟨s', hcu⟩ := hD4.out.cur
            have hcu := Lib.hid hcu
            by_cases k6 : k = 6
            · subst k6
              go_wp2_with fail
              refine (d_once _ _ _ _ _ (by omega) hcu.out).mono ?_
              rintro e w5 ⟨rfl, hc5, ha5⟩
              obtain ⟨B, hB⟩ : ∃ B, (belowD cs 4 s' == 0) = B := ⟨_, rfl⟩
              rw [hB]
              clear hB
              have hD5 : Hid (AtD w g cs w4.heap.size l ⟨6, x, 0⟩ v w5) := hD4.out.away hc5 ha5 hle hlt
              clear hc5 ha5
              go_wp2_with fail
              go_meet
              exact ⟨hD5.out, _, rfl⟩
            · have e6 : (k == 6) = false := by simpa using k6
              clear k6
              go_wp2_with fail
              go_meet
              exact ⟨hD4.out, _, rfl⟩
          case rest =>
          obtain ⟨hD5, B, rfl⟩ := hcut
          have hD5 := Lib.hid hD5
          clear hD4
          cases B
          · go_upto_region 15 with fail
            go_cut [68] (fun s68 wx => AtD w g cs w4.heap.size l ⟨k, x, 0⟩ v wx ∧ ∃ B : Bool, s68 = .bool B)
            case first =>
              obtain ⟨s', hcu⟩ := hD5.out.cur
              have hcu := Lib.hid hcu
              go_wp2_with fail
              refine (d_once _ _ _ _ _ (by omega) hcu.out).mono ?_
              rintro e w5 ⟨rfl, hc5, ha5⟩
              obtain ⟨B, hB⟩ : ∃ B, (belowD cs 20 s' == 0) = B := ⟨_, rfl⟩
              rw [hB]
              clear hB
              have hD6 : Hid (AtD w g cs w4.heap.size l ⟨k, x, 0⟩ v w5) := hD5.out.away hc5 ha5 hle hlt
              clear hc5 ha5
              go_wp2_with fail
              go_meet
              exact ⟨hD6.out, _, rfl⟩
            case rest =>
            rename_i wd
            clear hD5
            obtain ⟨hD5, B, rfl⟩ := hcut
            have hD5 := Lib.hid hD5
            cases B
            · go_wp2_with fail
              go_meet
              exact hD5.out.mid (n := L + 1) (by omega) hall.out hd4.out
            · obtain ⟨s', hcu⟩ := hD5.out.cur
              have hgl := hcu.lt
              have hcu := Lib.hid (hcu.alloc (.cells (noteS.map fun x => Value.string x).toArray 9))
              have hS := Lib.hid (StrsAt.made wc noteS 9)
              have hD6 := Lib.hid (hD5.out.alloc (.cells (noteS.map fun x => Value.string x).toArray 9))
              have hsD := hD5.out.has.lt
              go_wp2_with fail
              refine (d_pick g cs _ _ _ _ noteS _ rfl (by decide) (by decide) (by omega) hS.out hcu.out).mono ?_
              rintro e w6 ⟨z, hz, rfl, hc6, ha6⟩
              have hz := Lib.hid (noteS_size z (List.mem_of_getElem? hz))
              have hD6 : Hid (AtD w g cs w4.heap.size l ⟨k, x, 0⟩ v w6) := hD6.out.away hc6 ha6 hle hlt
              have hs6 := hD6.out.has.lt
              clear hc6 ha6 hgl
              go_upto_region 17 with (at_builtin; refine app_tok_at (by rfl) _ _ (by rfl) w.heap.size _ l (by rfl) (hD6.out.alloc _).own _ 1 ⟨2, z, 0⟩ (by rfl) (one_newt_at _ _ (by simp) ⟨2, z, 0⟩ _) (by omega) (by simp; omega) ?_; intro v1 w7 hown1 hb1 hg1 hat1; have hown1 := Lib.hid hown1; have hb1 := Lib.hid hb1; have hg1 := Lib.hid hg1; have hat1 := Lib.hid hat1)
              have hD7 : Hid (AtD w g cs w4.heap.size (l ++ [⟨2, z, 0⟩]) ⟨k, x, 0⟩ v1 w7) := (hD6.out.alloc _).app hlt hown1.out hb1.out hg1.out hat1.out
              have hsc : w4.heap.size < w7.heap.size := hD7.out.has.lt
              have c0 : w7.cell? ⟨w4.heap.size, 0, none⟩ = _ := hD7.out.has.get (i := 0) rfl
              have c1 : w7.cell? ⟨w4.heap.size, 1, none⟩ = _ := hD7.out.has.get (i := 1) rfl
              have c2 : w7.cell? ⟨w4.heap.size, 2, none⟩ = _ := hD7.out.has.get (i := 2) rfl
              have c3 : w7.frozen? ⟨w4.heap.size, 0, none⟩ = _ := hD7.out.has.free 0
              have c4 : w7.frozen? ⟨w4.heap.size, 1, none⟩ = _ := hD7.out.has.free 1
              have c5 : w7.frozen? ⟨w4.heap.size, 2, none⟩ = _ := hD7.out.has.free 2
              go_wp2_with fail
              go_meet
              exact (hD7.out.setTok hle hlt ⟨1, ⟨#[10]⟩, 0⟩).mid (n := L + 1) (by simp; omega) (drawn_all hall.out ⟨by dsimp only; omega, hz.out, rfl⟩) ⟨by dsimp only; omega, by decide, rfl⟩
          · have hsD := hD5.out.has.lt
            have hD6 := Lib.hid (hD5.out.setKind hle hlt 7)
            have hsq : w4.heap.size < wc.heap.size := hD5.out.has.lt
            have q0 : wc.cell? ⟨w4.heap.size, 0, none⟩ = _ := hD5.out.has.get (i := 0) rfl
            have q1 : wc.cell? ⟨w4.heap.size, 1, none⟩ = _ := hD5.out.has.get (i := 1) rfl
            have q2 : wc.cell? ⟨w4.heap.size, 2, none⟩ = _ := hD5.out.has.get (i := 2) rfl
            have q3 : wc.frozen? ⟨w4.heap.size, 0, none⟩ = _ := hD5.out.has.free 0
            have q4 : wc.frozen? ⟨w4.heap.size, 1, none⟩ = _ := hD5.out.has.free 1
            have q5 : wc.frozen? ⟨w4.heap.size, 2, none⟩ = _ := hD5.out.has.free 2
            go_upto_region 14 with (at_builtin; refine app_tok_at (by rfl) _ _ (by rfl) w.heap.size _ l (by rfl) (hD6.out.alloc _).own _ 1 ⟨7, x, 0⟩ (by rfl) (one_newt_at _ _ (by simp) ⟨7, x, 0⟩ _) (by omega) (by simp; omega) ?_; intro v1 w7 hown1 hb1 hg1 hat1; have hown1 := Lib.hid hown1; have hb1 := Lib.hid hb1; have hg1 := Lib.hid hg1; have hat1 := Lib.hid hat1)
            have hD7 : Hid (AtD w g cs w4.heap.size (l ++ [⟨7, x, 0⟩]) ⟨7, x, 0⟩ v1 w7) := (hD6.out.alloc _).app hlt hown1.out hb1.out hg1.out hat1.out
            have hsc : w4.heap.size < w7.heap.size := hD7.out.has.lt
            have c0 : w7.cell? ⟨w4.heap.size, 0, none⟩ = _ := hD7.out.has.get (i := 0) rfl
            have c1 : w7.cell? ⟨w4.heap.size, 1, none⟩ = _ := hD7.out.has.get (i := 1) rfl
            have c2 : w7.cell? ⟨w4.heap.size, 2, none⟩ = _ := hD7.out.has.get (i := 2) rfl
            have c3 : w7.frozen? ⟨w4.heap.size, 0, none⟩ = _ := hD7.out.has.free 0
            have c4 : w7.frozen? ⟨w4.heap.size, 1, none⟩ = _ := hD7.out.has.free 1
            have c5 : w7.frozen? ⟨w4.heap.size, 2, none⟩ = _ := hD7.out.has.free 2
            go_wp2_with fail
            go_meet
            exact (hD7.out.setTok hle hlt ⟨32, ⟨#[40]⟩, 0⟩).mid (n := L + 1) (by simp; omega) (drawn_all hall.out ⟨by dsimp only; omega, hd4.out.2.1, rfl⟩) ⟨by dsimp only; omega, by decide, rfl⟩
        · go_wp2_with fail
          go_meet
          exact hN4.out.mid (n := L + 1) (by omega) hall.out ⟨by dsimp only; omega, by decide, rfl⟩
      case rest =>
      clear hD4 hN4 hall hO
      obtain ⟨l5, ⟨k5, x5, a5⟩, s5, hl5, hall5, hd5, hO5, hap5, hX5, hc5, hA5⟩ := hcut
      have ha5 : a5 = 0 := hd5.out.2.2
      subst ha5
      have hs5 : w4.heap.size < wc.heap.size := hX5.out.lt
      have hle5 : w.heap.size ≤ wc.heap.size := hA5.out.size
      have c0 : wc.cell? ⟨w4.heap.size, 0, none⟩ = _ := hX5.out.get (i := 0) rfl
      have c1 : wc.cell? ⟨w4.heap.size, 1, none⟩ = _ := hX5.out.get (i := 1) rfl
      have c2 : wc.cell? ⟨w4.heap.size, 2, none⟩ = _ := hX5.out.get (i := 2) rfl
      go_wp2_with (at_builtin; refine app_tok_at (by rfl) _ _ (by rfl) w.heap.size _ l5 (by rfl) (hO5.out.alloc _) _ 1 ⟨k5, x5, 0⟩ (by rfl) (one_newt_at _ _ (by simp) ⟨k5, x5, 0⟩ _) (by omega) (by simp; omega) ?_; intro v' w' hown' hb' hg' hat'; have hown' := Lib.hid hown'; have hb' := Lib.hid hb')
      have hbF : Hid (Below w.heap.size wc w') := ((Below.refl _ _).alloc hle5 _).trans hb'.out
      go_roundw
      case rel => exact ⟨_, p, _, by simp; omega, rfl, drawn_all hall5.out hd5.out, hown', hc5.out.keep hbF.out hlt, hA5.out.then_below hbF.out⟩
      case measure => simp [intOf]
end Go.Proofs.YtdajhcammnlonaaDoor
