/- The text of tokens, both sides: Spell (walks). -/
import Derived.Test.YtdajhcammnlonaaDoorGap
import Derived.Test.YtdajhcammnlonaaDoorOwn
import Derived.Test.YtdajhcammnlonaaDoorRelexTwo
import Derived.Deep.RegionHeld3
import Derived.Lib.AppendStr
namespace Go.Proofs.YtdajhcammnlonaaDoor
open Go.RowKit
set_option linter.unusedVariables false

theorem OwnB.below {w w' : World} {B base : Nat} {v : Value} {l : List UInt8} (h : OwnB w base v l) (hb : Below B w w') (hB : w.heap.size ≤ B) : OwnB w' base v l := by
  refine ⟨h.1, ?_⟩
  rcases h.2 with h0 | ⟨g, cap, cur, hv, hb1, hg, r⟩
  · exact .inl h0
  · exact .inr ⟨g, cap, cur, hv, hb1, (hb.block g (by have := (Array.getElem?_eq_some_iff.1 hg).1; omega)).trans hg, r⟩
theorem OwnB.drewN {w : World} {base : Nat} {v : Value} {l : List UInt8} (h : OwnB w base v l) (n : Nat) : OwnB (w.drewN n) base v l := h
theorem OwnB.apart {w : World} {base g : Nat} {v : Value} {l : List UInt8} (h : OwnB w base v l) (hg : g < base ∨ w.heap.size ≤ g) : some g ≠ v.ownBlock := by
  intro e
  have := World.ownsRow.lt h g e.symm
  omega
theorem Has.grow {w w' : World} {g : Nat} {t : TypeId} {cs : Array Value} {row : Option Nat} (h : Has w g t cs) (hg : w.grownBy w' row) (hne : some g ≠ row) : Has w' g t cs := (hg.block g h.lt hne).trans h
theorem app_byte {ops : Array Oper} {rest : List Oper} {o : Oper} {a : Act} {Q : Exit → Act → World → Prop} {w : World} (hgd : o.guard = none) (s x : Operand)
    (ho : o.op = .call { callee := .builtin .append, args := #[s, x], argTypes := #[22, 22] }) (base : Nat) (v : Value) (l : List UInt8) (hs : a.eval s = v) (hown : OwnB w base v l)
    (g c : Nat) (b : UInt8) (hx : a.eval x = .slice (some ⟨g, 0, none⟩) 1 c) (hnew : w.cell? ⟨g, 0, none⟩ = some (.int .u8 (b.toNat : Int)))
    (hsz : l.length + 1 ≤ 1073741824) (hbase : base ≤ w.heap.size)
    (h : ∀ v' w', OwnB w' base v' (l ++ [b]) → Below base w w' → w.grownBy w' v.ownBlock → wpList Tryd.prog ops Q rest (a.put o.dst v') w') : wpList Tryd.prog ops Q (o :: rest) a w := by
  obtain ⟨i0, hi, hz0, hz1, hz2⟩ := info_parts info_byte
  refine wpList_append_own w hgd s x 22 ho base 5 i0 (.int .u8 0) 1 1 Tryd.underlying22 hi hz0 hz1 hz2 rfl (by decide) v l.length _ hs hown ⟨g, 0, none⟩ 1 c [.int .u8 (b.toNat : Int)] hx rfl ?_ ?_ (by unfold maxLen; omega) (by omega) hbase ?_
  · intro j u hu
    match j, hu with
    | 0, hu =>
      obtain rfl := Option.some.inj hu
      exact hnew
  · intro u hu
    obtain rfl := List.mem_singleton.1 hu
    rfl
  · intro v' w' h2 h3 _
    refine h v' w' ?_ ?_ h3
    · unfold OwnB
      rw [List.length_append, List.map_append]
      exact h2
    · exact (Below.refl base w).grown h3 hbase (fun k hk => (World.ownsRow.lt hown k hk).1)
theorem app_str {ops : Array Oper} {rest : List Oper} {o : Oper} {a : Act} {Q : Exit → Act → World → Prop} {w : World} (hgd : o.guard = none) (sl x : Operand)
    (ho : o.op = .call { callee := .builtin .append, args := #[sl, x], argTypes := #[22, 9] }) (base : Nat) (v : Value) (l : List UInt8) (hs : a.eval sl = v) (hown : OwnB w base v l)
    (s : ByteArray) (hx : a.eval x = .string s) (hsz : l.length + s.size ≤ 1073741824) (hbase : base ≤ w.heap.size)
    (h : ∀ v' w', OwnB w' base v' (l ++ s.data.toList) → Below base w w' → wpList Tryd.prog ops Q rest (a.put o.dst v') w') : wpList Tryd.prog ops Q (o :: rest) a w := by
  obtain ⟨i0, hi, hz0, hz1, hz2⟩ := info_parts info_byte
  refine Lib.wpList_append_own_string w hgd sl x 22 9 ho base 5 i0 Tryd.underlying22 Tryd.underlying9 hi hz0 hz1 hz2 v l.length _ hs hown s hx (by unfold maxLen; omega) (by omega) hbase ?_
  intro v' w' h2 h3 _
  refine h v' w' ?_ ?_
  · unfold OwnB
    have hl : (l ++ s.data.toList).length = l.length + s.size := by
      have h1 : s.data.toList.length = s.size := by simp
      rw [List.length_append, h1]
    rw [hl, List.map_append]
    exact h2
  · exact (Below.refl base w).grown h3 hbase (fun k hk => (World.ownsRow.lt hown k hk).1)
/-- the token ahead of a place -/
def prevOf (l : List PTok) (j : Nat) : Option PTok := if j = 0 then none else l[j - 1]?
theorem prevOf_zero (l : List PTok) : prevOf l 0 = none := rfl
theorem prevOf_succ (l : List PTok) (j : Nat) : prevOf l (j + 1) = l[j]? := by unfold prevOf; rw [if_neg (by omega)]; rfl
theorem spell_first {l : List PTok} {t : PTok} (ht : l[0]? = some t) : spellGo (prevOf l 0) (l.drop 0) = t.text.data.toList ++ spellGo (prevOf l 1) (l.drop 1) := by
  cases l with
  | nil => simp at ht
  | cons x r =>
    obtain rfl : x = t := by simpa using ht
    rfl
theorem spell_next {l : List PTok} {j : Nat} {p t : PTok} (hp : l[j]? = some p) (ht : l[j + 1]? = some t) : spellGo (prevOf l (j + 1)) (l.drop (j + 1)) = (if gapB p t = true then [32] else []) ++ (t.text.data.toList ++ spellGo (prevOf l (j + 1 + 1)) (l.drop (j + 1 + 1))) := by
  have hj := (List.getElem?_eq_some_iff.1 ht).1
  rw [prevOf_succ, prevOf_succ, hp, ht]
  have e : l.drop (j + 1) = t :: l.drop (j + 1 + 1) := by rw [List.drop_eq_getElem_cons hj, (List.getElem?_eq_some_iff.1 ht).2]
  rw [e]
  rfl
theorem spell_end {l : List PTok} {j : Nat} (h : l.length ≤ j) : spellGo (prevOf l j) (l.drop j) = [] := by
  rw [List.drop_eq_nil_of_le h]
  cases prevOf l j <;> rfl
/-- what has been spelled of the first tokens, and what is left -/
def Spelt (l : List PTok) (j : Nat) (acc : List UInt8) : Prop := spellGo none l = acc ++ spellGo (prevOf l j) (l.drop j) ∧ acc.length ≤ j + tokSum (l.take j)
theorem spelt_first {l : List PTok} {t : PTok} {acc : List UInt8} (h : Spelt l 0 acc) (ht : l[0]? = some t) : Spelt l 1 (acc ++ t.text.data.toList) := by
  obtain ⟨h1, h2⟩ := h
  refine ⟨by rw [h1, spell_first ht, List.append_assoc], ?_⟩
  rw [tok_take ht, List.length_append, tok_len]
  simp [tokSum] at h2 ⊢
  rw [h2]; simp
theorem spelt_gap {l : List PTok} {j : Nat} {p t : PTok} {acc : List UInt8} (h : Spelt l (j + 1) acc) (hp : l[j]? = some p) (ht : l[j + 1]? = some t) (hg : gapB p t = true) : Spelt l (j + 1 + 1) (acc ++ [32] ++ t.text.data.toList) := by
  obtain ⟨h1, h2⟩ := h
  refine ⟨by rw [h1, spell_next hp ht, if_pos hg]; simp, ?_⟩
  rw [tok_take ht, List.length_append, List.length_append, tok_len, List.length_singleton]
  omega
theorem spelt_bare {l : List PTok} {j : Nat} {p t : PTok} {acc : List UInt8} (h : Spelt l (j + 1) acc) (hp : l[j]? = some p) (ht : l[j + 1]? = some t) (hg : gapB p t = false) : Spelt l (j + 1 + 1) (acc ++ t.text.data.toList) := by
  obtain ⟨h1, h2⟩ := h
  refine ⟨by rw [h1, spell_next hp ht, if_neg (by rw [hg]; decide), List.nil_append, List.append_assoc], ?_⟩
  rw [tok_take ht, List.length_append, tok_len]
  omega
theorem spelt_gap' {l : List PTok} {j : Nat} {p t : PTok} {acc : List UInt8} (h : Spelt l j acc) (hj : 0 < j) (hp : l[j - 1]? = some p) (ht : l[j]? = some t) (hg : gapB p t = true) : Spelt l (j + 1) (acc ++ [32] ++ t.text.data.toList) := by
  obtain ⟨m, rfl⟩ : ∃ m, j = m + 1 := ⟨j - 1, by omega⟩
  exact spelt_gap h hp ht hg
theorem spelt_bare' {l : List PTok} {j : Nat} {p t : PTok} {acc : List UInt8} (h : Spelt l j acc) (hj : 0 < j) (hp : l[j - 1]? = some p) (ht : l[j]? = some t) (hg : gapB p t = false) : Spelt l (j + 1) (acc ++ t.text.data.toList) := by
  obtain ⟨m, rfl⟩ : ∃ m, j = m + 1 := ⟨j - 1, by omega⟩
  exact spelt_bare h hp ht hg
/-- the cells of two tokens in one block -/
def TwoT (W : World) (b o1 o2 : Nat) (p t : PTok) : Prop := W.cell? ⟨b, o1, none⟩ = some (.int .i64 p.kind) ∧ W.cell? ⟨b, o1 + 1, none⟩ = some (.string p.text) ∧ W.cell? ⟨b, o1 + 2, none⟩ = some (.int .i64 p.at_) ∧ W.cell? ⟨b, o2, none⟩ = some (.int .i64 t.kind) ∧ W.cell? ⟨b, o2 + 1, none⟩ = some (.string t.text) ∧ W.cell? ⟨b, o2 + 2, none⟩ = some (.int .i64 t.at_)
theorem TwoT.keep {x y : World} {b o1 o2 B : Nat} {p t : PTok} (h : TwoT x b o1 o2 p t) (hb : Below B x y) (hB : b < B) : TwoT y b o1 o2 p t := by
  have k : ∀ o, y.cell? ⟨b, o, none⟩ = x.cell? ⟨b, o, none⟩ := fun o => hb.cell (p := ⟨b, o, none⟩) hB
  unfold TwoT
  simp only [k]
  exact h
theorem spelt_end {l : List PTok} {acc : List UInt8} (h : Spelt l l.length acc) : spellL l = bs acc := by
  rw [spellL, h.1, spell_end (Nat.le_refl _), List.append_nil]
theorem str_app (acc : List UInt8) (s : ByteArray) : (⟨acc.toArray⟩ : ByteArray) ++ s = ⟨(acc ++ s.data.toList).toArray⟩ := by
  simp [ByteArray.ext_iff]
theorem str_gap (acc : List UInt8) (s : ByteArray) : (⟨acc.toArray⟩ : ByteArray) ++ ⟨#[32]⟩ ++ s = ⟨(acc ++ [32] ++ s.data.toList).toArray⟩ := by
  simp [ByteArray.ext_iff]
set_option maxRecDepth 100000 in
set_option maxHeartbeats 2000000 in
theorem s_spell (v : Value) (l : List PTok) (w : World) (hl : toksBulk l ≤ 1048576) (h : ToksIn w w.heap.size v l) : Calls Tryd.prog 47 #[v] w fun e w' => e = .returned (.string (spellL l)) ∧ Below w.heap.size w w' := by
  obtain ⟨A, c, rfl, hlc, hcm, hcell, hsz⟩ := h
  unfold maxLen at hcm
  obtain ⟨n, hn⟩ : ∃ n, l.length = n := ⟨_, rfl⟩
  have hbk : n + tokSum l ≤ 1048576 := by unfold toksBulk at hl; omega
  have hts := Lib.hid (show ∀ t ∈ l, t.text.size ≤ 1048576 from fun t ht => by have := tok_mem ht; omega)
  rw [hn] at hlc hcell ⊢
  have hnH := Lib.hid hn
  clear hn hl hsz
  go_enter Tryd.func47, Tryd.ntmps47
  go_wp2_with fail
  go_loopw [3, 4] (fun x i wr => ∃ (j : Nat) (acc : List UInt8), j ≤ n ∧ Hid (Spelt l j acc) ∧ acc.length ≤ 1048576 ∧ x = .string ⟨acc.toArray⟩ ∧ i = .int .i64 j ∧ Below w.heap.size w wr) (fun _ i _ => (n - (intOf i).toNat))
  case atStart => exact ⟨0, [], by omega, ⟨rfl, by simp⟩, by simp, rfl, by go_num, Below.refl _ _⟩
  case round =>
    obtain ⟨j, acc, hj, hd, hacc, rfl, rfl, hb⟩ := hrel
    by_cases hlt : j < n
    · obtain ⟨t, ht⟩ : ∃ t, l[j]? = some t := ⟨l[j]'(by rw [hnH.out]; exact hlt), List.getElem?_eq_getElem _⟩
      have htz := hts.out t (List.mem_of_getElem? ht)
      have hroom : ∀ a : List UInt8, Spelt l (j + 1) a → a.length ≤ 1048576 := fun a ha => by
        have h1 := ha.2
        have h2 := tok_take_le l (j + 1)
        omega
      have hroomH := Lib.hid hroom
      obtain ⟨b, off, hA, hl2, hc⟩ := hcell (by omega)
      subst hA
      obtain ⟨e0, e1, e2⟩ := hc j t ht
      have hk : ∀ o, wr.cell? ⟨b, o, none⟩ = w.cell? ⟨b, o, none⟩ := fun o => hb.cell (p := ⟨b, o, none⟩) hl2
      rw [← hk] at e0 e1 e2
      by_cases hj0 : j = 0
      · subst hj0
        have hst := Lib.hid (spelt_first hd.out ht)
        have hkH := Lib.hid hk
        have htH := Lib.hid ht
        have hl2H := Lib.hid hl2
        clear hk hc hcell ht hl2 hroom
        go_wp2_with fail
        go_quiet (fail)
        go_wp2_with fail
        go_roundw
        case rel => exact ⟨1, _, by omega, hst, hroomH.out _ hst.out, by rw [str_app], by go_num, below_drewN hb _⟩
        case measure => simp [intOf]; omega
      · have hjp : 0 < j := by omega
        obtain ⟨p, hp⟩ : ∃ p, l[j - 1]? = some p := ⟨l[j - 1]'(by rw [hnH.out]; omega), List.getElem?_eq_getElem _⟩
        have hpz := hts.out p (List.mem_of_getElem? hp)
        have hf := hc (j - 1) p hp
        have h6 : TwoT wr b (off + (j - 1) * 3) (off + j * 3) p t := by
          unfold TwoT
          simp only [hk]
          obtain ⟨f0, f1, f2⟩ := hf
          rw [hk] at e0 e1 e2
          exact ⟨f0, f1, f2, e0, e1, e2⟩
        have hl3 : b < wr.heap.size := Nat.lt_of_lt_of_le hl2 hb.size
        have h6H := Lib.hid h6
        have hl3H := Lib.hid hl3
        have hjd : decide (0 < j) = true := decide_eq_true hjp
        have gw : IntKind.i64.wrap ((j : Int) - 1) = (j : Int) - 1 := IntWalk.i64_in _ (by omega)
        have gj0 : 0 ≤ (j : Int) - 1 := by omega
        have gjl : (j : Int) - 1 < (n : Int) := by omega
        have gjt : ((j : Int) - 1).toNat = j - 1 := by omega
        have gj1 : (1 : Int) ≤ (j : Int) := by omega
        have gj2 : (j : Int) < (n : Int) + 1 := by omega
        have gj3 : 1 ≤ j := by omega
        have gj4 : j < n + 1 := by omega
        have gj5 : (0 : Int) ≤ (j : Int) := by omega
        have gj6 : (j : Int) < (n : Int) := by omega
        have hbH := Lib.hid hb
        have hacH := Lib.hid hacc
        cases hG : gapB p t
        all_goals
          have hGH := Lib.hid hG
          have hsg := fun h => spelt_gap' hd.out hjp hp ht h
          have hsb := fun h => spelt_bare' hd.out hjp hp ht h
          have hsgH := Lib.hid hsg
          have hsbH := Lib.hid hsb
          have htH := Lib.hid ht
          have hpH := Lib.hid hp
          obtain ⟨kp, tp, pp⟩ := p
          obtain ⟨kt, tt, pt⟩ := t
          have htz : tt.size ≤ 1048576 := htz
          have hpz : tp.size ≤ 1048576 := hpz
          have bacc : Below wr.drew.heap.size wr.drew wr.drew := Below.refl _ _
          have hkH : Hid (∀ W', Below wr.drew.heap.size wr.drew W' → TwoT W' b (off + (j - 1) * 3) (off + j * 3) ⟨kp, tp, pp⟩ ⟨kt, tt, pt⟩) := fun W' hw => (show TwoT wr.drew _ _ _ _ _ from h6H.out).keep hw hl3H.out
          obtain ⟨d0, d1, d2, d3, d4, d5⟩ := h6H.out
          clear hk hc hf hcell ht hp hl2 hl3 hroom hG hsg hsb h6 hb e0 e1 e2
          go_wp2_with fail
          go_region_held3 (fun W => W.cell? ⟨b, off + (j - 1) * 3, none⟩ = some (.int .i64 kp) ∧ W.cell? ⟨b, off + (j - 1) * 3 + 1, none⟩ = some (.string tp) ∧ W.cell? ⟨b, off + (j - 1) * 3 + 2, none⟩ = some (.int .i64 pp) ∧ W.cell? ⟨b, off + j * 3, none⟩ = some (.int .i64 kt) ∧ W.cell? ⟨b, off + j * 3 + 1, none⟩ = some (.string tt) ∧ W.cell? ⟨b, off + j * 3 + 2, none⟩ = some (.int .i64 pt)) (exact hkH.out _ bacc) ((go_at_call 102; refine (s_gap _ _ _ _ _ _ _ hpz htz).mono ?_; rintro e xb ⟨rfl, bb⟩; rw [hGH.out]; have bacc := Below.trans bacc (bb.mono bacc.size); clear bb))
          have hb2 : Hid (Below w.heap.size w xb) := (below_drewN hbH.out 1).trans (bacc.mono hbH.out.size)
          have hlx : b < xb.heap.size := Nat.lt_of_lt_of_le hl3H.out bacc.size
          have e1 := (hkH.out _ bacc).2.2.2.2.1
          clear d0 d1 d2 d3 d4 d5 gw gj0 gjl gjt gj1 gj2 gj3 gj4 gj5 gj6 bacc
          go_wp2_with fail
          go_roundw
          case rel =>
            first
              | exact ⟨j + 1, _, by omega, hsgH.out hGH.out, hroomH.out _ (hsgH.out hGH.out), by rw [← str_gap], by go_num, hb2.out⟩
              | exact ⟨j + 1, _, by omega, hsbH.out hGH.out, hroomH.out _ (hsbH.out hGH.out), by rw [str_app], by go_num, hb2.out⟩
          case measure => simp [intOf]; omega
    · obtain rfl : j = n := by omega
      have hfin := Lib.hid (spelt_end (l := l) (acc := acc) (by rw [hnH.out]; exact hd.out))
      clear hcell
      go_wp2_with fail
      go_ret
      exact ⟨ret_str hfin.out.symm, hb⟩
end Go.Proofs.YtdajhcammnlonaaDoor
