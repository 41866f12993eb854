/- Several texts in one (printed by merge.py): Spell, SpellI, Tokens, TokensI, SameTok, DrawToks, DrawSpell, LawsRelex. -/
import Derived.Test.YtdajhcammnlonaaDoorGap
import Derived.Test.YtdajhcammnlonaaDoorOwn
import Derived.Test.YtdajhcammnlonaaDoorRelexTwo
import Derived.Deep.RegionHeld3
import Derived.Lib.AppendStr
import Derived.Test.YtdajhcammnlonaaDoorTokOk
import Derived.Test.YtdajhcammnlonaaDoorTokensPure
import Derived.Test.YtdajhcammnlonaaDoorTokOkI
import Derived.Test.YtdajhcammnlonaaDoorTokKit
import Derived.Test.YtdajhcammnlonaaDoorLawsKind
import Derived.Test.YtdajhcammnlonaaDoorDrawTok
import Derived.Test.YtdajhcammnlonaaDoorOwnT
import Derived.Test.YtdajhcammnlonaaDoorLexFrom
import Derived.Maps.AppendAt
import Derived.Deep.DeepCutAuto
import Derived.Deep.CutBlock
import Derived.Test.YtdajhcammnlonaaDoorDrawWords
import Derived.Test.YtdajhcammnlonaaDoorLexI
/-! Spell -/
namespace Go.Proofs.YtdajhcammnlonaaDoor
open Go.RowKit
set_option linter.unusedVariables false

theorem OwnB.below {w w' : World} {B base : Nat} {v : Value} {l : List UInt8} (h : OwnB w base v l) (hb : Below B w w') (hB : w.heap.size ≤ B) : OwnB w' base v l := by
  refine ⟨h.1, ?_⟩
  rcases h.2 with h0 | ⟨g, cap, cur, hv, hb1, hg, r⟩
  · exact .inl h0
  · exact .inr ⟨g, cap, cur, hv, hb1, (hb.block g (by have := (Array.getElem?_eq_some_iff.1 hg).1; omega)).trans hg, r⟩
theorem OwnB.drewN {w : World} {base : Nat} {v : Value} {l : List UInt8} (h : OwnB w base v l) (n : Nat) : OwnB (w.drewN n) base v l := h
theorem OwnB.apart {w : World} {base g : Nat} {v : Value} {l : List UInt8} (h : OwnB w base v l) (hg : g < base ∨ w.heap.size ≤ g) : some g ≠ v.ownBlock := by
  intro e
  have := World.ownsRow.lt h g e.symm
  omega
theorem Has.grow {w w' : World} {g : Nat} {t : TypeId} {cs : Array Value} {row : Option Nat} (h : Has w g t cs) (hg : w.grownBy w' row) (hne : some g ≠ row) : Has w' g t cs := (hg.block g h.lt hne).trans h
theorem app_byte {ops : Array Oper} {rest : List Oper} {o : Oper} {a : Act} {Q : Exit → Act → World → Prop} {w : World} (hgd : o.guard = none) (s x : Operand)
    (ho : o.op = .call { callee := .builtin .append, args := #[s, x], argTypes := #[22, 22] }) (base : Nat) (v : Value) (l : List UInt8) (hs : a.eval s = v) (hown : OwnB w base v l)
    (g c : Nat) (b : UInt8) (hx : a.eval x = .slice (some ⟨g, 0, none⟩) 1 c) (hnew : w.cell? ⟨g, 0, none⟩ = some (.int .u8 (b.toNat : Int)))
    (hsz : l.length + 1 ≤ 1073741824) (hbase : base ≤ w.heap.size)
    (h : ∀ v' w', OwnB w' base v' (l ++ [b]) → Below base w w' → w.grownBy w' v.ownBlock → wpList Tryd.prog ops Q rest (a.put o.dst v') w') : wpList Tryd.prog ops Q (o :: rest) a w := by
  obtain ⟨i0, hi, hz0, hz1, hz2⟩ := info_parts info_byte
  refine wpList_append_own w hgd s x 22 ho base 5 i0 (.int .u8 0) 1 1 Tryd.underlying22 hi hz0 hz1 hz2 rfl (by decide) v l.length _ hs hown ⟨g, 0, none⟩ 1 c [.int .u8 (b.toNat : Int)] hx rfl ?_ ?_ (by unfold maxLen; omega) (by omega) hbase ?_
  · intro j u hu
    match j, hu with
    | 0, hu =>
      obtain rfl := Option.some.inj hu
      exact hnew
  · intro u hu
    obtain rfl := List.mem_singleton.1 hu
    rfl
  · intro v' w' h2 h3 _
    refine h v' w' ?_ ?_ h3
    · unfold OwnB
      rw [List.length_append, List.map_append]
      exact h2
    · exact (Below.refl base w).grown h3 hbase (fun k hk => (World.ownsRow.lt hown k hk).1)
theorem app_str {ops : Array Oper} {rest : List Oper} {o : Oper} {a : Act} {Q : Exit → Act → World → Prop} {w : World} (hgd : o.guard = none) (sl x : Operand)
    (ho : o.op = .call { callee := .builtin .append, args := #[sl, x], argTypes := #[22, 9] }) (base : Nat) (v : Value) (l : List UInt8) (hs : a.eval sl = v) (hown : OwnB w base v l)
    (s : ByteArray) (hx : a.eval x = .string s) (hsz : l.length + s.size ≤ 1073741824) (hbase : base ≤ w.heap.size)
    (h : ∀ v' w', OwnB w' base v' (l ++ s.data.toList) → Below base w w' → wpList Tryd.prog ops Q rest (a.put o.dst v') w') : wpList Tryd.prog ops Q (o :: rest) a w := by
  obtain ⟨i0, hi, hz0, hz1, hz2⟩ := info_parts info_byte
  refine Lib.wpList_append_own_string w hgd sl x 22 9 ho base 5 i0 Tryd.underlying22 Tryd.underlying9 hi hz0 hz1 hz2 v l.length _ hs hown s hx (by unfold maxLen; omega) (by omega) hbase ?_
  intro v' w' h2 h3 _
  refine h v' w' ?_ ?_
  · unfold OwnB
    have hl : (l ++ s.data.toList).length = l.length + s.size := by
      have h1 : s.data.toList.length = s.size := by simp
      rw [List.length_append, h1]
    rw [hl, List.map_append]
    exact h2
  · exact (Below.refl base w).grown h3 hbase (fun k hk => (World.ownsRow.lt hown k hk).1)
/-- the token ahead of a place -/
def prevOf (l : List PTok) (j : Nat) : Option PTok := if j = 0 then none else l[j - 1]?
theorem prevOf_zero (l : List PTok) : prevOf l 0 = none := rfl
theorem prevOf_succ (l : List PTok) (j : Nat) : prevOf l (j + 1) = l[j]? := by unfold prevOf; rw [if_neg (by omega)]; rfl
theorem spell_first {l : List PTok} {t : PTok} (ht : l[0]? = some t) : spellGo (prevOf l 0) (l.drop 0) = t.text.data.toList ++ spellGo (prevOf l 1) (l.drop 1) := by
  cases l with
  | nil => simp at ht
  | cons x r =>
    obtain rfl : x = t := by simpa using ht
    rfl
theorem spell_next {l : List PTok} {j : Nat} {p t : PTok} (hp : l[j]? = some p) (ht : l[j + 1]? = some t) : spellGo (prevOf l (j + 1)) (l.drop (j + 1)) = (if gapB p t = true then [32] else []) ++ (t.text.data.toList ++ spellGo (prevOf l (j + 1 + 1)) (l.drop (j + 1 + 1))) := by
  have hj := (List.getElem?_eq_some_iff.1 ht).1
  rw [prevOf_succ, prevOf_succ, hp, ht]
  have e : l.drop (j + 1) = t :: l.drop (j + 1 + 1) := by rw [List.drop_eq_getElem_cons hj, (List.getElem?_eq_some_iff.1 ht).2]
  rw [e]
  rfl
theorem spell_end {l : List PTok} {j : Nat} (h : l.length ≤ j) : spellGo (prevOf l j) (l.drop j) = [] := by
  rw [List.drop_eq_nil_of_le h]
  cases prevOf l j <;> rfl
/-- what has been spelled of the first tokens, and what is left -/
def Spelt (l : List PTok) (j : Nat) (acc : List UInt8) : Prop := spellGo none l = acc ++ spellGo (prevOf l j) (l.drop j) ∧ acc.length ≤ j + tokSum (l.take j)
theorem spelt_first {l : List PTok} {t : PTok} {acc : List UInt8} (h : Spelt l 0 acc) (ht : l[0]? = some t) : Spelt l 1 (acc ++ t.text.data.toList) := by
  obtain ⟨h1, h2⟩ := h
  refine ⟨by rw [h1, spell_first ht, List.append_assoc], ?_⟩
  rw [tok_take ht, List.length_append, tok_len]
  simp [tokSum] at h2 ⊢
  rw [h2]; simp
theorem spelt_gap {l : List PTok} {j : Nat} {p t : PTok} {acc : List UInt8} (h : Spelt l (j + 1) acc) (hp : l[j]? = some p) (ht : l[j + 1]? = some t) (hg : gapB p t = true) : Spelt l (j + 1 + 1) (acc ++ [32] ++ t.text.data.toList) := by
  obtain ⟨h1, h2⟩ := h
  refine ⟨by rw [h1, spell_next hp ht, if_pos hg]; simp, ?_⟩
  rw [tok_take ht, List.length_append, List.length_append, tok_len, List.length_singleton]
  omega
theorem spelt_bare {l : List PTok} {j : Nat} {p t : PTok} {acc : List UInt8} (h : Spelt l (j + 1) acc) (hp : l[j]? = some p) (ht : l[j + 1]? = some t) (hg : gapB p t = false) : Spelt l (j + 1 + 1) (acc ++ t.text.data.toList) := by
  obtain ⟨h1, h2⟩ := h
  refine ⟨by rw [h1, spell_next hp ht, if_neg (by rw [hg]; decide), List.nil_append, List.append_assoc], ?_⟩
  rw [tok_take ht, List.length_append, tok_len]
  omega
theorem spelt_gap' {l : List PTok} {j : Nat} {p t : PTok} {acc : List UInt8} (h : Spelt l j acc) (hj : 0 < j) (hp : l[j - 1]? = some p) (ht : l[j]? = some t) (hg : gapB p t = true) : Spelt l (j + 1) (acc ++ [32] ++ t.text.data.toList) := by
  obtain ⟨m, rfl⟩ : ∃ m, j = m + 1 := ⟨j - 1, by omega⟩
  exact spelt_gap h hp ht hg
theorem spelt_bare' {l : List PTok} {j : Nat} {p t : PTok} {acc : List UInt8} (h : Spelt l j acc) (hj : 0 < j) (hp : l[j - 1]? = some p) (ht : l[j]? = some t) (hg : gapB p t = false) : Spelt l (j + 1) (acc ++ t.text.data.toList) := by
  obtain ⟨m, rfl⟩ : ∃ m, j = m + 1 := ⟨j - 1, by omega⟩
  exact spelt_bare h hp ht hg
/-- the cells of two tokens in one block -/
def TwoT (W : World) (b o1 o2 : Nat) (p t : PTok) : Prop := W.cell? ⟨b, o1, none⟩ = some (.int .i64 p.kind) ∧ W.cell? ⟨b, o1 + 1, none⟩ = some (.string p.text) ∧ W.cell? ⟨b, o1 + 2, none⟩ = some (.int .i64 p.at_) ∧ W.cell? ⟨b, o2, none⟩ = some (.int .i64 t.kind) ∧ W.cell? ⟨b, o2 + 1, none⟩ = some (.string t.text) ∧ W.cell? ⟨b, o2 + 2, none⟩ = some (.int .i64 t.at_)
theorem TwoT.keep {x y : World} {b o1 o2 B : Nat} {p t : PTok} (h : TwoT x b o1 o2 p t) (hb : Below B x y) (hB : b < B) : TwoT y b o1 o2 p t := by
  have k : ∀ o, y.cell? ⟨b, o, none⟩ = x.cell? ⟨b, o, none⟩ := fun o => hb.cell (p := ⟨b, o, none⟩) hB
  unfold TwoT
  simp only [k]
  exact h
theorem spelt_end {l : List PTok} {acc : List UInt8} (h : Spelt l l.length acc) : spellL l = bs acc := by
  rw [spellL, h.1, spell_end (Nat.le_refl _), List.append_nil]
theorem str_app (acc : List UInt8) (s : ByteArray) : (⟨acc.toArray⟩ : ByteArray) ++ s = ⟨(acc ++ s.data.toList).toArray⟩ := by
  simp [ByteArray.ext_iff]
theorem str_gap (acc : List UInt8) (s : ByteArray) : (⟨acc.toArray⟩ : ByteArray) ++ ⟨#[32]⟩ ++ s = ⟨(acc ++ [32] ++ s.data.toList).toArray⟩ := by
  simp [ByteArray.ext_iff]
set_option maxRecDepth 100000 in
set_option maxHeartbeats 2000000 in
theorem s_spell (v : Value) (l : List PTok) (w : World) (hl : toksBulk l ≤ 1048576) (h : ToksIn w w.heap.size v l) : Calls Tryd.prog 47 #[v] w fun e w' => e = .returned (.string (spellL l)) ∧ Below w.heap.size w w' := by
  obtain ⟨A, c, rfl, hlc, hcm, hcell, hsz⟩ := h
  unfold maxLen at hcm
  obtain ⟨n, hn⟩ : ∃ n, l.length = n := ⟨_, rfl⟩
  have hbk : n + tokSum l ≤ 1048576 := by unfold toksBulk at hl; omega
  have hts := Lib.hid (show ∀ t ∈ l, t.text.size ≤ 1048576 from fun t ht => by have := tok_mem ht; omega)
  rw [hn] at hlc hcell ⊢
  have hnH := Lib.hid hn
  clear hn hl hsz
  go_enter Tryd.func47, Tryd.ntmps47
  go_wp2_with fail
  go_loopw [3, 4] (fun x i wr => ∃ (j : Nat) (acc : List UInt8), j ≤ n ∧ Hid (Spelt l j acc) ∧ acc.length ≤ 1048576 ∧ x = .string ⟨acc.toArray⟩ ∧ i = .int .i64 j ∧ Below w.heap.size w wr) (fun _ i _ => (n - (intOf i).toNat))
  case atStart => exact ⟨0, [], by omega, ⟨rfl, by simp⟩, by simp, rfl, by go_num, Below.refl _ _⟩
  case round =>
    obtain ⟨j, acc, hj, hd, hacc, rfl, rfl, hb⟩ := hrel
    by_cases hlt : j < n
    · obtain ⟨t, ht⟩ : ∃ t, l[j]? = some t := ⟨l[j]'(by rw [hnH.out]; exact hlt), List.getElem?_eq_getElem _⟩
      have htz := hts.out t (List.mem_of_getElem? ht)
      have hroom : ∀ a : List UInt8, Spelt l (j + 1) a → a.length ≤ 1048576 := fun a ha => by
        have h1 := ha.2
        have h2 := tok_take_le l (j + 1)
        omega
      have hroomH := Lib.hid hroom
      obtain ⟨b, off, hA, hl2, hc⟩ := hcell (by omega)
      subst hA
      obtain ⟨e0, e1, e2⟩ := hc j t ht
      have hk : ∀ o, wr.cell? ⟨b, o, none⟩ = w.cell? ⟨b, o, none⟩ := fun o => hb.cell (p := ⟨b, o, none⟩) hl2
      rw [← hk] at e0 e1 e2
      by_cases hj0 : j = 0
      · subst hj0
        have hst := Lib.hid (spelt_first hd.out ht)
        have hkH := Lib.hid hk
        have htH := Lib.hid ht
        have hl2H := Lib.hid hl2
        clear hk hc hcell ht hl2 hroom
        go_wp2_with fail
        go_quiet (fail)
        go_wp2_with fail
        go_roundw
        case rel => exact ⟨1, _, by omega, hst, hroomH.out _ hst.out, by rw [str_app], by go_num, below_drewN hb _⟩
        case measure => simp [intOf]; omega
      · have hjp : 0 < j := by omega
        obtain ⟨p, hp⟩ : ∃ p, l[j - 1]? = some p := ⟨l[j - 1]'(by rw [hnH.out]; omega), List.getElem?_eq_getElem _⟩
        have hpz := hts.out p (List.mem_of_getElem? hp)
        have hf := hc (j - 1) p hp
        have h6 : TwoT wr b (off + (j - 1) * 3) (off + j * 3) p t := by
          unfold TwoT
          simp only [hk]
          obtain ⟨f0, f1, f2⟩ := hf
          rw [hk] at e0 e1 e2
          exact ⟨f0, f1, f2, e0, e1, e2⟩
        have hl3 : b < wr.heap.size := Nat.lt_of_lt_of_le hl2 hb.size
        have h6H := Lib.hid h6
        have hl3H := Lib.hid hl3
        have hjd : decide (0 < j) = true := decide_eq_true hjp
        have gw : IntKind.i64.wrap ((j : Int) - 1) = (j : Int) - 1 := IntWalk.i64_in _ (by omega)
        have gj0 : 0 ≤ (j : Int) - 1 := by omega
        have gjl : (j : Int) - 1 < (n : Int) := by omega
        have gjt : ((j : Int) - 1).toNat = j - 1 := by omega
        have gj1 : (1 : Int) ≤ (j : Int) := by omega
        have gj2 : (j : Int) < (n : Int) + 1 := by omega
        have gj3 : 1 ≤ j := by omega
        have gj4 : j < n + 1 := by omega
        have gj5 : (0 : Int) ≤ (j : Int) := by omega
        have gj6 : (j : Int) < (n : Int) := by omega
        have hbH := Lib.hid hb
        have hacH := Lib.hid hacc
        cases hG : gapB p t
        all_goals
          have hGH := Lib.hid hG
          have hsg := fun h => spelt_gap' hd.out hjp hp ht h
          have hsb := fun h => spelt_bare' hd.out hjp hp ht h
          have hsgH := Lib.hid hsg
          have hsbH := Lib.hid hsb
          have htH := Lib.hid ht
          have hpH := Lib.hid hp
          obtain ⟨kp, tp, pp⟩ := p
          obtain ⟨kt, tt, pt⟩ := t
          have htz : tt.size ≤ 1048576 := htz
          have hpz : tp.size ≤ 1048576 := hpz
          have bacc : Below wr.drew.heap.size wr.drew wr.drew := Below.refl _ _
          have hkH : Hid (∀ W', Below wr.drew.heap.size wr.drew W' → TwoT W' b (off + (j - 1) * 3) (off + j * 3) ⟨kp, tp, pp⟩ ⟨kt, tt, pt⟩) := fun W' hw => (show TwoT wr.drew _ _ _ _ _ from h6H.out).keep hw hl3H.out
          obtain ⟨d0, d1, d2, d3, d4, d5⟩ := h6H.out
          clear hk hc hf hcell ht hp hl2 hl3 hroom hG hsg hsb h6 hb e0 e1 e2
          go_wp2_with fail
          go_region_held3 (fun W => W.cell? ⟨b, off + (j - 1) * 3, none⟩ = some (.int .i64 kp) ∧ W.cell? ⟨b, off + (j - 1) * 3 + 1, none⟩ = some (.string tp) ∧ W.cell? ⟨b, off + (j - 1) * 3 + 2, none⟩ = some (.int .i64 pp) ∧ W.cell? ⟨b, off + j * 3, none⟩ = some (.int .i64 kt) ∧ W.cell? ⟨b, off + j * 3 + 1, none⟩ = some (.string tt) ∧ W.cell? ⟨b, off + j * 3 + 2, none⟩ = some (.int .i64 pt)) (exact hkH.out _ bacc) ((go_at_call 102; refine (s_gap _ _ _ _ _ _ _ hpz htz).mono ?_; rintro e xb ⟨rfl, bb⟩; rw [hGH.out]; have bacc := Below.trans bacc (bb.mono bacc.size); clear bb))
          have hb2 : Hid (Below w.heap.size w xb) := (below_drewN hbH.out 1).trans (bacc.mono hbH.out.size)
          have hlx : b < xb.heap.size := Nat.lt_of_lt_of_le hl3H.out bacc.size
          have e1 := (hkH.out _ bacc).2.2.2.2.1
          clear d0 d1 d2 d3 d4 d5 gw gj0 gjl gjt gj1 gj2 gj3 gj4 gj5 gj6 bacc
          go_wp2_with fail
          go_roundw
          case rel =>
            first
              | exact ⟨j + 1, _, by omega, hsgH.out hGH.out, hroomH.out _ (hsgH.out hGH.out), by rw [← str_gap], by go_num, hb2.out⟩
              | exact ⟨j + 1, _, by omega, hsbH.out hGH.out, hroomH.out _ (hsbH.out hGH.out), by rw [str_app], by go_num, hb2.out⟩
          case measure => simp [intOf]; omega
    · obtain rfl : j = n := by omega
      have hfin := Lib.hid (spelt_end (l := l) (acc := acc) (by rw [hnH.out]; exact hd.out))
      clear hcell
      go_wp2_with fail
      go_ret
      exact ⟨ret_str hfin.out.symm, hb⟩
end Go.Proofs.YtdajhcammnlonaaDoor
/-! SpellI -/
namespace Go.Proofs.YtdajhcammnlonaaDoor
open Go.RowKit
set_option linter.unusedVariables false
set_option maxRecDepth 100000 in
set_option maxHeartbeats 2000000 in
theorem i_spell (v : Value) (l : List PTok) (w : World) (hl : toksBulk l ≤ 1048576) (h : ToksIn w w.heap.size v l) (t1 : TabAt w 1 signL) : Calls Tryd.prog 44 #[v] w fun e w' => e = .returned (.string (spellL l)) ∧ Below w.heap.size w w' := by
  obtain ⟨A, c, rfl, hlc, hcm, hcell, hsz⟩ := h
  unfold maxLen at hcm
  have tH := Lib.hid t1
  obtain ⟨n, hn⟩ : ∃ n, l.length = n := ⟨_, rfl⟩
  have hbk : n + tokSum l ≤ 1048576 := by unfold toksBulk at hl; omega
  have hts := Lib.hid (show ∀ t ∈ l, t.text.size ≤ 1048576 from fun t ht => by have := tok_mem ht; omega)
  rw [hn] at hlc hcell ⊢
  have hnH := Lib.hid hn
  clear hn hl hsz t1
  go_enter Tryd.func44, Tryd.ntmps44
  go_wp2_with fail
  go_loopw [3, 9] (fun x i wr => ∃ (j : Nat) (acc : List UInt8), j ≤ n ∧ Hid (Spelt l j acc) ∧ acc.length ≤ 1048576 ∧ OwnB wr w.heap.size x acc ∧ i = .int .i64 j ∧ Below w.heap.size w wr) (fun _ i _ => (n - (intOf i).toNat))
  case atStart => exact ⟨0, [], by omega, ⟨rfl, by simp⟩, by simp, OwnB.start w (Nat.le_refl _), by go_num, (Below.refl _ _).alloc (Nat.le_refl _) _⟩
  case round =>
    obtain ⟨j, acc, hj, hd, hacc, hown0, rfl, hb⟩ := hrel
    have hown := Lib.hid hown0
    clear hown0
    by_cases hlt : j < n
    · obtain ⟨t, ht⟩ : ∃ t, l[j]? = some t := ⟨l[j]'(by rw [hnH.out]; exact hlt), List.getElem?_eq_getElem _⟩
      have htz := hts.out t (List.mem_of_getElem? ht)
      have hroom : ∀ a : List UInt8, Spelt l (j + 1) a → a.length ≤ 1048576 := fun a ha => by
        have h1 := ha.2
        have h2 := tok_take_le l (j + 1)
        omega
      have hroomH := Lib.hid hroom
      obtain ⟨b, off, hA, hl2, hc⟩ := hcell (by omega)
      subst hA
      obtain ⟨e0, e1, e2⟩ := hc j t ht
      have hk : ∀ o, wr.cell? ⟨b, o, none⟩ = w.cell? ⟨b, o, none⟩ := fun o => hb.cell (p := ⟨b, o, none⟩) hl2
      rw [← hk] at e0 e1 e2
      by_cases hj0 : j = 0
      · subst hj0
        have hst := Lib.hid (spelt_first hd.out ht)
        obtain ⟨kt, tt, pt⟩ := t
        have hkH := Lib.hid hk
        have htH := Lib.hid ht
        have hl2H := Lib.hid hl2
        have hlen := Lib.hid (show acc.length + tt.size ≤ 1073741824 by have h0 : tt.size ≤ 1048576 := htz; omega)
        have hbH := Lib.hid hb
        clear hk hc hcell ht hl2 hroom hb
        simp only [Nat.zero_mul, Nat.add_zero] at e0 e1 e2
        go_wp2_with fail
        go_quiet (fail)
        go_wp2_with (at_builtin; refine app_str (by rfl) _ _ (by rfl) w.heap.size _ acc (by rfl) ((hown.out.alloc _).drewN _) tt (by rfl) hlen.out (by have := hbH.out.size; show _ ≤ (World.alloc _ _).heap.size; simp; omega) ?_; intro v' w' hown' hb'; have hown3 := Lib.hid hown'; have hb4 := Lib.hid hb'; clear hown' hb')
        go_roundw
        case rel => exact ⟨1, _, by omega, hst, hroomH.out _ hst.out, hown3.out, by go_num, (below_drewN (hbH.out.alloc hbH.out.size _) _).trans hb4.out⟩
        case measure => simp [intOf]; omega
      · have hjp : 0 < j := by omega
        obtain ⟨p, hp⟩ : ∃ p, l[j - 1]? = some p := ⟨l[j - 1]'(by rw [hnH.out]; omega), List.getElem?_eq_getElem _⟩
        have hpz := hts.out p (List.mem_of_getElem? hp)
        have hf := hc (j - 1) p hp
        have hl3 : b < wr.heap.size := Nat.lt_of_lt_of_le hl2 hb.size
        obtain ⟨f0, f1, f2⟩ := hf
        rw [← hk] at f0 f1 f2
        have h9 := Lib.hid (Has.made wr 36 #[.int .i64 t.kind, .string t.text, .int .i64 t.at_])
        have hAl := Lib.hid ((Below.refl wr.heap.size wr).alloc (Nat.le_refl _) (.cells #[.int .i64 t.kind, .string t.text, .int .i64 t.at_] 36))
        have hl3H := Lib.hid hl3
        have hjd : decide (0 < j) = true := decide_eq_true hjp
        have gw : IntKind.i64.wrap ((j : Int) - 1) = (j : Int) - 1 := IntWalk.i64_in _ (by omega)
        have gj0 : 0 ≤ (j : Int) - 1 := by omega
        have gjl : (j : Int) - 1 < (n : Int) := by omega
        have gjt : ((j : Int) - 1).toNat = j - 1 := by omega
        have gj1 : (1 : Int) ≤ (j : Int) := by omega
        have gj2 : (j : Int) < (n : Int) + 1 := by omega
        have gj3 : 1 ≤ j := by omega
        have gj4 : j < n + 1 := by omega
        have gj5 : (0 : Int) ≤ (j : Int) := by omega
        have gj6 : (j : Int) < (n : Int) := by omega
        have hbH := Lib.hid hb
        have hacH := Lib.hid hacc
        cases hG : gapB p t
        all_goals
          have hGH := Lib.hid hG
          have hsg := fun h => spelt_gap' hd.out hjp hp ht h
          have hsb := fun h => spelt_bare' hd.out hjp hp ht h
          have hsgH := Lib.hid hsg
          have hsbH := Lib.hid hsb
          have htH := Lib.hid ht
          have hpH := Lib.hid hp
          obtain ⟨kp, tp, pp⟩ := p
          obtain ⟨kt, tt, pt⟩ := t
          have htz : tt.size ≤ 1048576 := htz
          have hpz : tp.size ≤ 1048576 := hpz
          have hlen := Lib.hid (show acc.length + 1 + tt.size ≤ 1073741824 by omega)
          have hlen1 := Lib.hid (show acc.length + 1 ≤ 1073741824 by omega)
          have hlen0 := Lib.hid (show acc.length + tt.size ≤ 1073741824 by omega)
          have hcp : Hid (wr.cell? ⟨b, off + (j - 1) * 3, none⟩ = some (.int .i64 kp) ∧ wr.cell? ⟨b, off + (j - 1) * 3 + 1, none⟩ = some (.string tp) ∧ wr.cell? ⟨b, off + (j - 1) * 3 + 2, none⟩ = some (.int .i64 pp)) := ⟨f0, f1, f2⟩
          clear hk hc hcell ht hp hl2 hroom hG hsg hsb hb
          go_wp2_with fail
          obtain ⟨W, hW⟩ : ∃ W, wr.alloc (.cells #[.int .i64 kt, .string tt, .int .i64 pt] 36) = W := ⟨_, rfl⟩
          have h9 : Has W wr.heap.size 36 #[.int .i64 kt, .string tt, .int .i64 pt] := by rw [← hW]; exact h9.out
          have hAl : Below wr.heap.size wr W := by rw [← hW]; exact hAl.out
          have hS : ∀ W', Below W.drew.heap.size W.drew W' → W'.cell? ⟨b, off + (j - 1) * 3, none⟩ = some (.int .i64 kp) ∧ W'.cell? ⟨b, off + (j - 1) * 3 + 1, none⟩ = some (.string tp) ∧ W'.cell? ⟨b, off + (j - 1) * 3 + 2, none⟩ = some (.int .i64 pp) ∧ W'.cell? ⟨wr.heap.size, 0, none⟩ = some (.int .i64 kt) ∧ W'.cell? ⟨wr.heap.size, 1, none⟩ = some (.string tt) ∧ W'.cell? ⟨wr.heap.size, 2, none⟩ = some (.int .i64 pt) := fun W' hw => by
            have hA2 : Below wr.heap.size wr W' := hAl.trans ((show Below W.heap.size W W' from ⟨hw.os, hw.tape, hw.output, hw.size, hw.block⟩).mono hAl.size)
            have hh : Has W' wr.heap.size 36 #[.int .i64 kt, .string tt, .int .i64 pt] := (show Has W.drew _ _ _ from h9).below hw h9.lt
            obtain ⟨q0, q1, q2⟩ := hcp.out
            exact ⟨(hA2.cell (p := ⟨b, _, none⟩) hl3H.out).trans q0, (hA2.cell (p := ⟨b, _, none⟩) hl3H.out).trans q1, (hA2.cell (p := ⟨b, _, none⟩) hl3H.out).trans q2, hh.get rfl, hh.get rfl, hh.get rfl⟩
          have hown2 := Lib.hid ((hown.out.below hAl (Nat.le_refl _)).drewN 1)
          have hwW : Below w.heap.size w W := hbH.out.trans (hAl.mono hbH.out.size)
          have xt : Hid (TabAt W.drew 1 signL) := (tH.out.later hwW).drewN 1
          have hbW : Hid (Below w.heap.size w W.drew) := below_drewN hwW 1
          have h9d : Hid (Has W.drew wr.heap.size 36 #[.int .i64 kt, .string tt, .int .i64 pt]) := h9
          have hWs : Hid (wr.heap.size < W.drew.heap.size) := h9.lt
          have hSH := Lib.hid hS
          have bacc : Below W.drew.heap.size W.drew W.drew := Below.refl _ _
          obtain ⟨d0, d1, d2, d3, d4, d5⟩ := hS _ bacc
          rw [hW]
          have hwrH : Hid (w.heap.size ≤ wr.heap.size) := hbH.out.size
          clear hS h9 hAl hwW hW f0 f1 f2 e0 e1 e2
          have d0 : W.cell? ⟨b, off + (j - 1) * 3, none⟩ = some (.int .i64 kp) := d0
          have d1 : W.cell? ⟨b, off + (j - 1) * 3 + 1, none⟩ = some (.string tp) := d1
          have d2 : W.cell? ⟨b, off + (j - 1) * 3 + 2, none⟩ = some (.int .i64 pp) := d2
          have d3 : W.cell? ⟨wr.heap.size, 0, none⟩ = some (.int .i64 kt) := d3
          have d4 : W.cell? ⟨wr.heap.size, 1, none⟩ = some (.string tt) := d4
          have d5 : W.cell? ⟨wr.heap.size, 2, none⟩ = some (.int .i64 pt) := d5
          go_region_held3 (fun W' => W'.cell? ⟨b, off + (j - 1) * 3, none⟩ = some (.int .i64 kp) ∧ W'.cell? ⟨b, off + (j - 1) * 3 + 1, none⟩ = some (.string tp) ∧ W'.cell? ⟨b, off + (j - 1) * 3 + 2, none⟩ = some (.int .i64 pp) ∧ W'.cell? ⟨wr.heap.size, 0, none⟩ = some (.int .i64 kt) ∧ W'.cell? ⟨wr.heap.size, 1, none⟩ = some (.string tt) ∧ W'.cell? ⟨wr.heap.size, 2, none⟩ = some (.int .i64 pt)) (exact hSH.out _ bacc) ((go_at_call 99; refine (i_gap _ _ _ _ _ _ _ hpz htz xt.out).mono ?_; rintro e xb ⟨rfl, bb⟩; rw [hGH.out]; have bacc := Below.trans bacc (bb.mono bacc.size); clear bb))
          have hb2 : Hid (Below w.heap.size w xb) := hbW.out.trans (bacc.mono hbW.out.size)
          have hown3 := Lib.hid (hown2.out.below bacc (Nat.le_refl _))
          have h9x := Lib.hid (h9d.out.below bacc hWs.out)
          have m1 := h9x.out.get (i := 1) rfl
          have hxs : Hid (wr.heap.size < xb.heap.size) := Nat.lt_of_lt_of_le hWs.out bacc.size
          have hws : Hid (w.heap.size ≤ xb.heap.size) := hb2.out.size
          clear d0 d1 d2 d3 d4 d5 gw gj0 gjl gjt gj1 gj2 gj3 gj4 gj5 gj6 bacc
          have hap := Lib.hid (hown.out.apart (g := wr.heap.size) (.inr (Nat.le_refl _)))
          go_wp2_with (first | (at_builtin; refine app_byte (by rfl) _ _ (by rfl) w.heap.size _ acc (by rfl) (hown3.out.alloc _) xb.heap.size 1 32 (by rfl) (by rw [World.cell?_alloc_new]; rfl) hlen1.out (by have := hws.out; simp; omega) ?_; intro v3 w3 hown' hb' hgr; have hm := ((h9x.out.alloc _).grow hgr hap.out).get (i := 1) rfl; have hown4 := Lib.hid hown'; have hb4 := Lib.hid ((hb2.out.alloc hws.out _).trans hb'); clear hown' hb' hgr) | (at_builtin; refine app_str (by rfl) _ _ (by rfl) w.heap.size _ (acc ++ [32]) (by rfl) hown4.out tt (by rfl) (by rw [List.length_append]; exact hlen.out) hb4.out.size ?_; intro v' w' hown' hb'; have hown5 := Lib.hid hown'; have hb5 := Lib.hid (hb4.out.trans hb'); clear hown' hb') | (at_builtin; refine app_str (by rfl) _ _ (by rfl) w.heap.size _ acc (by rfl) hown3.out tt (by rfl) hlen0.out hws.out ?_; intro v' w' hown' hb'; have hown5 := Lib.hid hown'; have hb5 := Lib.hid (hb2.out.trans hb'); clear hown' hb'))
          go_roundw
          case rel =>
            first
              | exact ⟨j + 1, _, by omega, hsgH.out hGH.out, hroomH.out _ (hsgH.out hGH.out), hown5.out, by go_num, hb5.out⟩
              | exact ⟨j + 1, _, by omega, hsbH.out hGH.out, hroomH.out _ (hsbH.out hGH.out), hown5.out, by go_num, hb5.out⟩
          case measure => simp [intOf]; omega
    · obtain rfl : j = n := by omega
      have hfin := Lib.hid (spelt_end (l := l) (acc := acc) (by rw [hnH.out]; exact hd.out))
      have hcv := conv_own hown.out
      clear hcell
      go_wp2_with fail
      go_ret
      exact ⟨ret_str hfin.out.symm, hb⟩
end Go.Proofs.YtdajhcammnlonaaDoor
/-! Tokens -/
namespace Go.Proofs.YtdajhcammnlonaaDoor
open Go.RowKit
set_option linter.unusedVariables false
set_option maxRecDepth 100000 in
set_option maxHeartbeats 4000000 in
theorem s_tokensOk (v : Value) (l : List PTok) (w : World) (hl : toksBulk l ≤ 1048576) (h : ToksIn w w.heap.size v l) : Calls Tryd.prog 46 #[v] w fun e w' => e = .returned (.bool (tokensOkB l)) ∧ Below w.heap.size w w' := by
  obtain ⟨A, c, rfl, hlc, hcm, hcell, hsz⟩ := h
  obtain ⟨R, hR⟩ : ∃ R, tokensOkB l = R := ⟨_, rfl⟩
  rw [hR]
  obtain ⟨n, hn⟩ : ∃ n, l.length = n := ⟨_, rfl⟩
  have hnl : n ≤ 1048576 := by unfold toksBulk at hl; omega
  have htx : Hid (∀ t ∈ l, t.text.size ≤ 16777216) := by
    show ∀ t ∈ l, _
    intro t ht
    have := tok_mem ht
    unfold toksBulk at hl
    omega
  rw [hn] at hlc hcell ⊢
  have hnH := Lib.hid hn
  have hlcH := Lib.hid hlc
  clear hl hn hlc hcm
  by_cases hbig : 3000 < n
  · have hRF : R = false := by rw [← hR, tokensOkB, decide_eq_false (by rw [hnH.out]; omega)]; rfl
    subst hRF
    clear hR hcell hsz
    go_enter Tryd.func46, Tryd.ntmps46
    go_wp2_with fail
    go_ret
    exact ⟨rfl, Below.refl _ _⟩
  have hRH : Hid (R = tokensGo 0 l) := by
    show _ = _
    rw [← hR, tokensOkB, decide_eq_true (by rw [hnH.out]; omega)]; rfl
  clear hR
  go_enter Tryd.func46, Tryd.ntmps46
  go_wp2_with fail
  go_loopw [3, 4] (fun x i wr => ∃ (j : Nat) (b : Int), j ≤ n ∧ Hid (R = tokensGo b (l.drop j)) ∧ x = .int .i64 b ∧ i = .int .i64 j ∧ Below w.heap.size w wr) (fun _ i _ => (n - (intOf i).toNat))
  case atStart => exact ⟨0, 0, by omega, hRH.out, rfl, by go_num, Below.refl _ _⟩
  case round =>
    obtain ⟨j, b, hj, hd, rfl, rfl, hb⟩ := hrel
    by_cases hlt : j < n
    · obtain ⟨nd, hnd⟩ : ∃ nd, l[j]? = some nd := ⟨l[j]'(by rw [hnH.out]; exact hlt), List.getElem?_eq_getElem _⟩
      have hmem : nd ∈ l := List.mem_of_getElem? hnd
      obtain ⟨hk, _, _⟩ := hsz nd hmem
      have ht := htx.out nd hmem
      obtain ⟨bl, off, hA, hlt2, hc⟩ := hcell (by omega)
      subst hA
      obtain ⟨e0, e1, e2⟩ := hc j nd hnd
      have hkc : ∀ o, wr.cell? ⟨bl, o, none⟩ = w.cell? ⟨bl, o, none⟩ := fun o => hb.cell (p := ⟨bl, o, none⟩) hlt2
      rw [← hkc] at e0 e1 e2
      have hstep0 := tokensGo_at (b := b) hnd
      obtain ⟨k, t, p⟩ := nd
      have hk : okI64 k := hk
      have ht : t.size ≤ 16777216 := ht
      by_cases hn1 : j + 1 < n
      · obtain ⟨u, hu⟩ : ∃ u, l[j + 1]? = some u := ⟨l[j + 1]'(by rw [hnH.out]; exact hn1), List.getElem?_eq_getElem _⟩
        obtain ⟨f0, _, _⟩ := hc (j + 1) u hu
        rw [← hkc] at f0
        have hNx := nextK_at hu
        have hu := Lib.hid hu
        obtain ⟨N, hN0⟩ : ∃ N, u.kind = N := ⟨_, rfl⟩
        rw [hNx, hN0] at hstep0
        rw [hN0] at f0
        have hstep := Lib.hid hstep0
        clear hstep0
        have hN0H := Lib.hid hN0
        clear hkc hc hcell hsz hnd hmem hNx
        cases hT : tokenOkB ⟨k, t, p⟩
        · have hT := Lib.hid hT
          have hE := Lib.hid (show endsB b = endsB b from rfl)
          have hRF : R = false := by rw [hd.out, hstep.out]; simp [stands, hT.out]
          subst hRF
          go_wp2_with (first | (go_at_call 53; refine (s_tokenOk _ _ _ _ hk ht).mono ?_; rintro e w2 ⟨rfl, hb2⟩; rw [hT.out]; have hbz := hb.trans (hb2.mono hb.size)) | (go_at_call 101; refine (s_ends _ _).mono ?_; rintro e w' ⟨rfl, rfl⟩; rw [hE.out]))
          go_ret
          exact ⟨rfl, hbz⟩
        · have hT := Lib.hid hT
          obtain ⟨E, hE⟩ : ∃ E, endsB b = E := ⟨_, rfl⟩
          have hE := Lib.hid hE
          by_cases c7 : k = 7
          · subst c7
            cases hN : N == 32
            · have hN2 : (N != 32) = true := by rw [bne, hN]; rfl
              have hN3 : N ≠ 32 := by simpa using hN
              have hRF : R = false := by rw [hd.out, hstep.out]; simp [stands, hN3]
              subst hRF
              go_wp2_with (first | (go_at_call 53; refine (s_tokenOk _ _ _ _ hk ht).mono ?_; rintro e w2 ⟨rfl, hb2⟩; rw [hT.out]; have hbz := hb.trans (hb2.mono hb.size)) | (go_at_call 101; refine (s_ends _ _).mono ?_; rintro e w' ⟨rfl, rfl⟩; rw [hE.out]))
              go_ret
              exact ⟨rfl, hbz⟩
            · have hN2 : (N != 32) = false := by rw [bne, hN]; rfl
              have hN3 : N = 32 := by simpa using hN
              have hst : Hid (R = tokensGo (7) (l.drop (j + 1))) := by show _ = _; rw [hd.out, hstep.out]; simp [stands, hT.out, hN3]
              go_wp2_with (first | (go_at_call 53; refine (s_tokenOk _ _ _ _ hk ht).mono ?_; rintro e w2 ⟨rfl, hb2⟩; rw [hT.out]; have hbz := hb.trans (hb2.mono hb.size)) | (go_at_call 101; refine (s_ends _ _).mono ?_; rintro e w' ⟨rfl, rfl⟩; rw [hE.out]))
              go_roundw
              case rel => exact ⟨j + 1, _, by omega, hst, rfl, by go_num, hbz⟩
              case measure => simp [intOf]; omega
          by_cases c2 : k = 2
          · subst c2
            cases hN : N == 1
            · have hN2 : (N != 1) = true := by rw [bne, hN]; rfl
              have hN3 : N ≠ 1 := by simpa using hN
              cases hM : N == 0
              · have hM2 : (N != 0) = true := by rw [bne, hM]; rfl
                have hM3 : N ≠ 0 := by simpa using hM
                have hRF : R = false := by rw [hd.out, hstep.out]; simp [stands, hN3, hM3]
                subst hRF
                go_wp2_with (first | (go_at_call 53; refine (s_tokenOk _ _ _ _ hk ht).mono ?_; rintro e w2 ⟨rfl, hb2⟩; rw [hT.out]; have hbz := hb.trans (hb2.mono hb.size)) | (go_at_call 101; refine (s_ends _ _).mono ?_; rintro e w' ⟨rfl, rfl⟩; rw [hE.out]))
                go_ret
                exact ⟨rfl, hbz⟩
              · have hM2 : (N != 0) = false := by rw [bne, hM]; rfl
                have hz : Hid (tokensGo 2 (l.drop (j + 1)) = false) := tokensGo_zero hu.out (by rw [hN0H.out]; simpa using hM)
                have hRF : R = false := by rw [hd.out, hstep.out, hz.out, Bool.and_false]
                subst hRF
                go_wp2_with (first | (go_at_call 53; refine (s_tokenOk _ _ _ _ hk ht).mono ?_; rintro e w2 ⟨rfl, hb2⟩; rw [hT.out]; have hbz := hb.trans (hb2.mono hb.size)) | (go_at_call 101; refine (s_ends _ _).mono ?_; rintro e w' ⟨rfl, rfl⟩; rw [hE.out]))
                go_ret
                exact ⟨rfl, hbz⟩
            · have hN2 : (N != 1) = false := by rw [bne, hN]; rfl
              have hN3 : N = 1 := by simpa using hN
              have hst : Hid (R = tokensGo (2) (l.drop (j + 1))) := by show _ = _; rw [hd.out, hstep.out]; simp [stands, hT.out, hN3]
              go_wp2_with (first | (go_at_call 53; refine (s_tokenOk _ _ _ _ hk ht).mono ?_; rintro e w2 ⟨rfl, hb2⟩; rw [hT.out]; have hbz := hb.trans (hb2.mono hb.size)) | (go_at_call 101; refine (s_ends _ _).mono ?_; rintro e w' ⟨rfl, rfl⟩; rw [hE.out]))
              go_roundw
              case rel => exact ⟨j + 1, _, by omega, hst, rfl, by go_num, hbz⟩
              case measure => simp [intOf]; omega
          by_cases c5 : k = 5
          · subst c5
            cases E
            · skip
              have hst : Hid (R = tokensGo (5) (l.drop (j + 1))) := by show _ = _; rw [hd.out, hstep.out]; simp [stands, hT.out, hE.out]
              go_wp2_with (first | (go_at_call 53; refine (s_tokenOk _ _ _ _ hk ht).mono ?_; rintro e w2 ⟨rfl, hb2⟩; rw [hT.out]; have hbz := hb.trans (hb2.mono hb.size)) | (go_at_call 101; refine (s_ends _ _).mono ?_; rintro e w' ⟨rfl, rfl⟩; rw [hE.out]))
              go_roundw
              case rel => exact ⟨j + 1, _, by omega, hst, rfl, by go_num, hbz⟩
              case measure => simp [intOf]; omega
            · skip
              have hRF : R = false := by rw [hd.out, hstep.out]; simp [stands, hT.out, hE.out]
              subst hRF
              go_wp2_with (first | (go_at_call 53; refine (s_tokenOk _ _ _ _ hk ht).mono ?_; rintro e w2 ⟨rfl, hb2⟩; rw [hT.out]; have hbz := hb.trans (hb2.mono hb.size)) | (go_at_call 101; refine (s_ends _ _).mono ?_; rintro e w' ⟨rfl, rfl⟩; rw [hE.out]))
              go_ret
              exact ⟨rfl, hbz⟩
          by_cases c58 : k = 58
          · subst c58
            cases E
            · skip
              have hRF : R = false := by rw [hd.out, hstep.out]; simp [stands, hT.out, hE.out]
              subst hRF
              go_wp2_with (first | (go_at_call 53; refine (s_tokenOk _ _ _ _ hk ht).mono ?_; rintro e w2 ⟨rfl, hb2⟩; rw [hT.out]; have hbz := hb.trans (hb2.mono hb.size)) | (go_at_call 101; refine (s_ends _ _).mono ?_; rintro e w' ⟨rfl, rfl⟩; rw [hE.out]))
              go_ret
              exact ⟨rfl, hbz⟩
            · skip
              have hst : Hid (R = tokensGo (58) (l.drop (j + 1))) := by show _ = _; rw [hd.out, hstep.out]; simp [stands, hT.out, hE.out]
              go_wp2_with (first | (go_at_call 53; refine (s_tokenOk _ _ _ _ hk ht).mono ?_; rintro e w2 ⟨rfl, hb2⟩; rw [hT.out]; have hbz := hb.trans (hb2.mono hb.size)) | (go_at_call 101; refine (s_ends _ _).mono ?_; rintro e w' ⟨rfl, rfl⟩; rw [hE.out]))
              go_roundw
              case rel => exact ⟨j + 1, _, by omega, hst, rfl, by go_num, hbz⟩
              case measure => simp [intOf]; omega
          by_cases c41 : k = 41
          · subst c41
            cases E
            · skip
              have hRF : R = false := by rw [hd.out, hstep.out]; simp [stands, hT.out, hE.out]
              subst hRF
              go_wp2_with (first | (go_at_call 53; refine (s_tokenOk _ _ _ _ hk ht).mono ?_; rintro e w2 ⟨rfl, hb2⟩; rw [hT.out]; have hbz := hb.trans (hb2.mono hb.size)) | (go_at_call 101; refine (s_ends _ _).mono ?_; rintro e w' ⟨rfl, rfl⟩; rw [hE.out]))
              go_ret
              exact ⟨rfl, hbz⟩
            · skip
              have hst : Hid (R = tokensGo (41) (l.drop (j + 1))) := by show _ = _; rw [hd.out, hstep.out]; simp [stands, hT.out, hE.out]
              go_wp2_with (first | (go_at_call 53; refine (s_tokenOk _ _ _ _ hk ht).mono ?_; rintro e w2 ⟨rfl, hb2⟩; rw [hT.out]; have hbz := hb.trans (hb2.mono hb.size)) | (go_at_call 101; refine (s_ends _ _).mono ?_; rintro e w' ⟨rfl, rfl⟩; rw [hE.out]))
              go_roundw
              case rel => exact ⟨j + 1, _, by omega, hst, rfl, by go_num, hbz⟩
              case measure => simp [intOf]; omega
          have d7 : (k == 7) = false := by simpa using c7
          have d2 : (k == 2) = false := by simpa using c2
          have d5 : (k == 5) = false := by simpa using c5
          have d58 : (k == 58) = false := by simpa using c58
          have d41 : (k == 41) = false := by simpa using c41
          have hst : Hid (R = tokensGo (k) (l.drop (j + 1))) := by show _ = _; rw [hd.out, hstep.out]; simp [stands, hT.out, c7, c2, c5, c58, c41]
          go_wp2_with (first | (go_at_call 53; refine (s_tokenOk _ _ _ _ hk ht).mono ?_; rintro e w2 ⟨rfl, hb2⟩; rw [hT.out]; have hbz := hb.trans (hb2.mono hb.size)) | (go_at_call 101; refine (s_ends _ _).mono ?_; rintro e w' ⟨rfl, rfl⟩; rw [hE.out]))
          go_roundw
          case rel => exact ⟨j + 1, _, by omega, hst, rfl, by go_num, hbz⟩
          case measure => simp [intOf]; omega
      · have hNx := nextK_no (l := l) (j := j) (by rw [hnH.out]; omega)
        rw [hNx] at hstep0
        have hstep := Lib.hid hstep0
        clear hstep0 hkc hc hcell hsz hnd hmem hNx
        cases hT : tokenOkB ⟨k, t, p⟩
        · have hT := Lib.hid hT
          have hE := Lib.hid (show endsB b = endsB b from rfl)
          have hRF : R = false := by rw [hd.out, hstep.out]; simp [stands, hT.out]
          subst hRF
          go_wp2_with (first | (go_at_call 53; refine (s_tokenOk _ _ _ _ hk ht).mono ?_; rintro e w2 ⟨rfl, hb2⟩; rw [hT.out]; have hbz := hb.trans (hb2.mono hb.size)) | (go_at_call 101; refine (s_ends _ _).mono ?_; rintro e w' ⟨rfl, rfl⟩; rw [hE.out]))
          go_ret
          exact ⟨rfl, hbz⟩
        · have hT := Lib.hid hT
          obtain ⟨E, hE⟩ : ∃ E, endsB b = E := ⟨_, rfl⟩
          have hE := Lib.hid hE
          by_cases c7 : k = 7
          · subst c7
            have hRF : R = false := by rw [hd.out, hstep.out]; simp [stands, hT.out]
            subst hRF
            go_wp2_with (first | (go_at_call 53; refine (s_tokenOk _ _ _ _ hk ht).mono ?_; rintro e w2 ⟨rfl, hb2⟩; rw [hT.out]; have hbz := hb.trans (hb2.mono hb.size)) | (go_at_call 101; refine (s_ends _ _).mono ?_; rintro e w' ⟨rfl, rfl⟩; rw [hE.out]))
            go_ret
            exact ⟨rfl, hbz⟩
          by_cases c2 : k = 2
          · subst c2
            have hst : Hid (R = tokensGo (2) (l.drop (j + 1))) := by show _ = _; rw [hd.out, hstep.out]; simp [stands, hT.out]
            go_wp2_with (first | (go_at_call 53; refine (s_tokenOk _ _ _ _ hk ht).mono ?_; rintro e w2 ⟨rfl, hb2⟩; rw [hT.out]; have hbz := hb.trans (hb2.mono hb.size)) | (go_at_call 101; refine (s_ends _ _).mono ?_; rintro e w' ⟨rfl, rfl⟩; rw [hE.out]))
            go_roundw
            case rel => exact ⟨j + 1, _, by omega, hst, rfl, by go_num, hbz⟩
            case measure => simp [intOf]; omega
          by_cases c5 : k = 5
          · subst c5
            cases E
            · skip
              have hst : Hid (R = tokensGo (5) (l.drop (j + 1))) := by show _ = _; rw [hd.out, hstep.out]; simp [stands, hT.out, hE.out]
              go_wp2_with (first | (go_at_call 53; refine (s_tokenOk _ _ _ _ hk ht).mono ?_; rintro e w2 ⟨rfl, hb2⟩; rw [hT.out]; have hbz := hb.trans (hb2.mono hb.size)) | (go_at_call 101; refine (s_ends _ _).mono ?_; rintro e w' ⟨rfl, rfl⟩; rw [hE.out]))
              go_roundw
              case rel => exact ⟨j + 1, _, by omega, hst, rfl, by go_num, hbz⟩
              case measure => simp [intOf]; omega
            · skip
              have hRF : R = false := by rw [hd.out, hstep.out]; simp [stands, hT.out, hE.out]
              subst hRF
              go_wp2_with (first | (go_at_call 53; refine (s_tokenOk _ _ _ _ hk ht).mono ?_; rintro e w2 ⟨rfl, hb2⟩; rw [hT.out]; have hbz := hb.trans (hb2.mono hb.size)) | (go_at_call 101; refine (s_ends _ _).mono ?_; rintro e w' ⟨rfl, rfl⟩; rw [hE.out]))
              go_ret
              exact ⟨rfl, hbz⟩
          by_cases c58 : k = 58
          · subst c58
            cases E
            · skip
              have hRF : R = false := by rw [hd.out, hstep.out]; simp [stands, hT.out, hE.out]
              subst hRF
              go_wp2_with (first | (go_at_call 53; refine (s_tokenOk _ _ _ _ hk ht).mono ?_; rintro e w2 ⟨rfl, hb2⟩; rw [hT.out]; have hbz := hb.trans (hb2.mono hb.size)) | (go_at_call 101; refine (s_ends _ _).mono ?_; rintro e w' ⟨rfl, rfl⟩; rw [hE.out]))
              go_ret
              exact ⟨rfl, hbz⟩
            · skip
              have hst : Hid (R = tokensGo (58) (l.drop (j + 1))) := by show _ = _; rw [hd.out, hstep.out]; simp [stands, hT.out, hE.out]
              go_wp2_with (first | (go_at_call 53; refine (s_tokenOk _ _ _ _ hk ht).mono ?_; rintro e w2 ⟨rfl, hb2⟩; rw [hT.out]; have hbz := hb.trans (hb2.mono hb.size)) | (go_at_call 101; refine (s_ends _ _).mono ?_; rintro e w' ⟨rfl, rfl⟩; rw [hE.out]))
              go_roundw
              case rel => exact ⟨j + 1, _, by omega, hst, rfl, by go_num, hbz⟩
              case measure => simp [intOf]; omega
          by_cases c41 : k = 41
          · subst c41
            cases E
            · skip
              have hRF : R = false := by rw [hd.out, hstep.out]; simp [stands, hT.out, hE.out]
              subst hRF
              go_wp2_with (first | (go_at_call 53; refine (s_tokenOk _ _ _ _ hk ht).mono ?_; rintro e w2 ⟨rfl, hb2⟩; rw [hT.out]; have hbz := hb.trans (hb2.mono hb.size)) | (go_at_call 101; refine (s_ends _ _).mono ?_; rintro e w' ⟨rfl, rfl⟩; rw [hE.out]))
              go_ret
              exact ⟨rfl, hbz⟩
            · skip
              have hst : Hid (R = tokensGo (41) (l.drop (j + 1))) := by show _ = _; rw [hd.out, hstep.out]; simp [stands, hT.out, hE.out]
              go_wp2_with (first | (go_at_call 53; refine (s_tokenOk _ _ _ _ hk ht).mono ?_; rintro e w2 ⟨rfl, hb2⟩; rw [hT.out]; have hbz := hb.trans (hb2.mono hb.size)) | (go_at_call 101; refine (s_ends _ _).mono ?_; rintro e w' ⟨rfl, rfl⟩; rw [hE.out]))
              go_roundw
              case rel => exact ⟨j + 1, _, by omega, hst, rfl, by go_num, hbz⟩
              case measure => simp [intOf]; omega
          have d7 : (k == 7) = false := by simpa using c7
          have d2 : (k == 2) = false := by simpa using c2
          have d5 : (k == 5) = false := by simpa using c5
          have d58 : (k == 58) = false := by simpa using c58
          have d41 : (k == 41) = false := by simpa using c41
          have hst : Hid (R = tokensGo (k) (l.drop (j + 1))) := by show _ = _; rw [hd.out, hstep.out]; simp [stands, hT.out, c7, c5, c58, c41]
          go_wp2_with (first | (go_at_call 53; refine (s_tokenOk _ _ _ _ hk ht).mono ?_; rintro e w2 ⟨rfl, hb2⟩; rw [hT.out]; have hbz := hb.trans (hb2.mono hb.size)) | (go_at_call 101; refine (s_ends _ _).mono ?_; rintro e w' ⟨rfl, rfl⟩; rw [hE.out]))
          go_roundw
          case rel => exact ⟨j + 1, _, by omega, hst, rfl, by go_num, hbz⟩
          case measure => simp [intOf]; omega
    · obtain rfl : j = n := by omega
      have hRT : R = true := by rw [hd.out, tokensGo_end (by rw [hnH.out]; exact Nat.le_refl _)]
      subst hRT
      clear hcell hsz
      go_wp2_with fail
      go_ret
      exact ⟨rfl, hb⟩
end Go.Proofs.YtdajhcammnlonaaDoor
/-! TokensI -/
namespace Go.Proofs.YtdajhcammnlonaaDoor
open Go.RowKit
set_option linter.unusedVariables false
set_option maxRecDepth 100000 in
set_option maxHeartbeats 4000000 in
theorem i_tokensOk (v : Value) (l : List PTok) (w : World) (hl : toksBulk l ≤ 1048576) (h : ToksIn w w.heap.size v l) (t0 : TabAt w 0 kwL) (t1 : TabAt w 1 signL) (t2 : TabAt w 2 biL) : Calls Tryd.prog 50 #[v] w fun e w' => e = .returned (.bool (tokensOkB l)) ∧ Below w.heap.size w w' := by
  obtain ⟨A, c, rfl, hlc, hcm, hcell, hsz⟩ := h
  have t0H := Lib.hid t0
  have t1H := Lib.hid t1
  have t2H := Lib.hid t2
  clear t0 t1 t2
  obtain ⟨R, hR⟩ : ∃ R, tokensOkB l = R := ⟨_, rfl⟩
  rw [hR]
  obtain ⟨n, hn⟩ : ∃ n, l.length = n := ⟨_, rfl⟩
  have hnl : n ≤ 1048576 := by unfold toksBulk at hl; omega
  have htx : Hid (∀ t ∈ l, t.text.size ≤ 16777216) := by
    show ∀ t ∈ l, _
    intro t ht
    have := tok_mem ht
    unfold toksBulk at hl
    omega
  rw [hn] at hlc hcell ⊢
  have hnH := Lib.hid hn
  have hlcH := Lib.hid hlc
  clear hl hn hlc hcm
  by_cases hbig : 3000 < n
  · have hRF : R = false := by rw [← hR, tokensOkB, decide_eq_false (by rw [hnH.out]; omega)]; rfl
    subst hRF
    clear hR hcell hsz
    go_enter Tryd.func50, Tryd.ntmps50
    go_wp2_with fail
    go_ret
    exact ⟨rfl, Below.refl _ _⟩
  have hRH : Hid (R = tokensGo 0 l) := by
    show _ = _
    rw [← hR, tokensOkB, decide_eq_true (by rw [hnH.out]; omega)]; rfl
  clear hR
  go_enter Tryd.func50, Tryd.ntmps50
  go_wp2_with fail
  go_loopw [3, 12] (fun x i wr => ∃ (j : Nat) (b : Int), j ≤ n ∧ Hid (R = tokensGo b (l.drop j)) ∧ x = .int .i64 b ∧ i = .int .i64 j ∧ Below w.heap.size w wr) (fun _ i _ => (n - (intOf i).toNat))
  case atStart => exact ⟨0, 0, by omega, hRH.out, rfl, by go_num, Below.refl _ _⟩
  case round =>
    obtain ⟨j, b, hj, hd, rfl, rfl, hb⟩ := hrel
    by_cases hlt : j < n
    · obtain ⟨nd, hnd⟩ : ∃ nd, l[j]? = some nd := ⟨l[j]'(by rw [hnH.out]; exact hlt), List.getElem?_eq_getElem _⟩
      have hmem : nd ∈ l := List.mem_of_getElem? hnd
      obtain ⟨hk, _, _⟩ := hsz nd hmem
      have ht := htx.out nd hmem
      obtain ⟨bl, off, hA, hlt2, hc⟩ := hcell (by omega)
      subst hA
      obtain ⟨e0, e1, e2⟩ := hc j nd hnd
      have hkc : ∀ o, wr.cell? ⟨bl, o, none⟩ = w.cell? ⟨bl, o, none⟩ := fun o => hb.cell (p := ⟨bl, o, none⟩) hlt2
      rw [← hkc] at e0 e1 e2
      have hstep0 := tokensGo_at (b := b) hnd
      obtain ⟨k, t, p⟩ := nd
      have hk : okI64 k := hk
      have ht : t.size ≤ 16777216 := ht
      have y0 := Lib.hid (t0H.out.later hb)
      have y1 := Lib.hid (t1H.out.later hb)
      have y2 := Lib.hid (t2H.out.later hb)
      obtain ⟨m0, m1, m2, mb, mlt⟩ := tok_box wr (.int .i64 k) (.string t) (.int .i64 p) 36
      have g0 := Lib.hid (y0.out.later mb)
      have g1 := Lib.hid (y1.out.later mb)
      have g2 := Lib.hid (y2.out.later mb)
      have x0 := Lib.hid m0
      have hltb := Lib.hid mlt
      have hba := Lib.hid (hb.trans (mb.mono hb.size))
      have hkA : ∀ o, (wr.alloc (.cells #[.int .i64 k, .string t, .int .i64 p] 36)).cell? ⟨bl, o, none⟩ = wr.cell? ⟨bl, o, none⟩ := fun o => mb.cell (p := ⟨bl, o, none⟩) (Nat.lt_of_lt_of_le hlt2 hb.size)
      clear m0 m1 m2 mb mlt
      by_cases hn1 : j + 1 < n
      · obtain ⟨u, hu⟩ : ∃ u, l[j + 1]? = some u := ⟨l[j + 1]'(by rw [hnH.out]; exact hn1), List.getElem?_eq_getElem _⟩
        obtain ⟨f0, _, _⟩ := hc (j + 1) u hu
        rw [← hkc, ← hkA] at f0
        have hNx := nextK_at hu
        have hu := Lib.hid hu
        obtain ⟨N, hN0⟩ : ∃ N, u.kind = N := ⟨_, rfl⟩
        rw [hNx, hN0] at hstep0
        rw [hN0] at f0
        have hstep := Lib.hid hstep0
        clear hstep0
        have hN0H := Lib.hid hN0
        clear hkA hkc hc hcell hsz hnd hmem hNx
        cases hT : tokenOkB ⟨k, t, p⟩
        · have hT := Lib.hid hT
          have hE := Lib.hid (show endsB b = endsB b from rfl)
          have hRF : R = false := by rw [hd.out, hstep.out]; simp [stands, hT.out]
          subst hRF
          go_wp2_with fail
          refine (i_tokenOk _ _ _ _ hk ht g0.out g1.out g2.out).mono ?_
          rintro e w2 ⟨rfl, hb2⟩
          rw [hT.out]
          have z0 := (hb2.cell (p := ⟨wr.heap.size, 0, none⟩) hltb.out).trans x0.out
          have hbz := hba.out.trans (hb2.mono hba.out.size)
          clear hb2
          go_wp2_with (go_at_call 105; refine (i_ends _ _).mono ?_; rintro e w' ⟨rfl, rfl⟩; rw [hE.out])
          go_ret
          exact ⟨rfl, hbz⟩
        · have hT := Lib.hid hT
          obtain ⟨E, hE⟩ : ∃ E, endsB b = E := ⟨_, rfl⟩
          have hE := Lib.hid hE
          by_cases c7 : k = 7
          · subst c7
            cases hN : N == 32
            · have hN2 : (N != 32) = true := by rw [bne, hN]; rfl
              have hN3 : N ≠ 32 := by simpa using hN
              have hRF : R = false := by rw [hd.out, hstep.out]; simp [stands, hN3]
              subst hRF
              go_wp2_with fail
              refine (i_tokenOk _ _ _ _ hk ht g0.out g1.out g2.out).mono ?_
              rintro e w2 ⟨rfl, hb2⟩
              rw [hT.out]
              have z0 := (hb2.cell (p := ⟨wr.heap.size, 0, none⟩) hltb.out).trans x0.out
              have hbz := hba.out.trans (hb2.mono hba.out.size)
              clear hb2
              go_wp2_with (go_at_call 105; refine (i_ends _ _).mono ?_; rintro e w' ⟨rfl, rfl⟩; rw [hE.out])
              go_ret
              exact ⟨rfl, hbz⟩
            · have hN2 : (N != 32) = false := by rw [bne, hN]; rfl
              have hN3 : N = 32 := by simpa using hN
              have hst : Hid (R = tokensGo (7) (l.drop (j + 1))) := by show _ = _; rw [hd.out, hstep.out]; simp [stands, hT.out, hN3]
              go_wp2_with fail
              refine (i_tokenOk _ _ _ _ hk ht g0.out g1.out g2.out).mono ?_
              rintro e w2 ⟨rfl, hb2⟩
              rw [hT.out]
              have z0 := (hb2.cell (p := ⟨wr.heap.size, 0, none⟩) hltb.out).trans x0.out
              have hbz := hba.out.trans (hb2.mono hba.out.size)
              clear hb2
              go_wp2_with (go_at_call 105; refine (i_ends _ _).mono ?_; rintro e w' ⟨rfl, rfl⟩; rw [hE.out])
              go_roundw
              case rel => exact ⟨j + 1, _, by omega, hst, rfl, by go_num, hbz⟩
              case measure => simp [intOf]; omega
          by_cases c2 : k = 2
          · subst c2
            cases hN : N == 1
            · have hN2 : (N != 1) = true := by rw [bne, hN]; rfl
              have hN3 : N ≠ 1 := by simpa using hN
              cases hM : N == 0
              · have hM2 : (N != 0) = true := by rw [bne, hM]; rfl
                have hM3 : N ≠ 0 := by simpa using hM
                have hRF : R = false := by rw [hd.out, hstep.out]; simp [stands, hN3, hM3]
                subst hRF
                go_wp2_with fail
                refine (i_tokenOk _ _ _ _ hk ht g0.out g1.out g2.out).mono ?_
                rintro e w2 ⟨rfl, hb2⟩
                rw [hT.out]
                have z0 := (hb2.cell (p := ⟨wr.heap.size, 0, none⟩) hltb.out).trans x0.out
                have hbz := hba.out.trans (hb2.mono hba.out.size)
                clear hb2
                go_wp2_with (go_at_call 105; refine (i_ends _ _).mono ?_; rintro e w' ⟨rfl, rfl⟩; rw [hE.out])
                go_ret
                exact ⟨rfl, hbz⟩
              · have hM2 : (N != 0) = false := by rw [bne, hM]; rfl
                have hM3 : N = 0 := by simpa using hM
                have hst : Hid (R = tokensGo (2) (l.drop (j + 1))) := by show _ = _; rw [hd.out, hstep.out]; simp [stands, hT.out, hM3]
                go_wp2_with fail
                refine (i_tokenOk _ _ _ _ hk ht g0.out g1.out g2.out).mono ?_
                rintro e w2 ⟨rfl, hb2⟩
                rw [hT.out]
                have z0 := (hb2.cell (p := ⟨wr.heap.size, 0, none⟩) hltb.out).trans x0.out
                have hbz := hba.out.trans (hb2.mono hba.out.size)
                clear hb2
                go_wp2_with (go_at_call 105; refine (i_ends _ _).mono ?_; rintro e w' ⟨rfl, rfl⟩; rw [hE.out])
                go_roundw
                case rel => exact ⟨j + 1, _, by omega, hst, rfl, by go_num, hbz⟩
                case measure => simp [intOf]; omega
            · have hN2 : (N != 1) = false := by rw [bne, hN]; rfl
              have hN3 : N = 1 := by simpa using hN
              have hst : Hid (R = tokensGo (2) (l.drop (j + 1))) := by show _ = _; rw [hd.out, hstep.out]; simp [stands, hT.out, hN3]
              go_wp2_with fail
              refine (i_tokenOk _ _ _ _ hk ht g0.out g1.out g2.out).mono ?_
              rintro e w2 ⟨rfl, hb2⟩
              rw [hT.out]
              have z0 := (hb2.cell (p := ⟨wr.heap.size, 0, none⟩) hltb.out).trans x0.out
              have hbz := hba.out.trans (hb2.mono hba.out.size)
              clear hb2
              go_wp2_with (go_at_call 105; refine (i_ends _ _).mono ?_; rintro e w' ⟨rfl, rfl⟩; rw [hE.out])
              go_roundw
              case rel => exact ⟨j + 1, _, by omega, hst, rfl, by go_num, hbz⟩
              case measure => simp [intOf]; omega
          by_cases c5 : k = 5
          · subst c5
            cases E
            · skip
              have hst : Hid (R = tokensGo (5) (l.drop (j + 1))) := by show _ = _; rw [hd.out, hstep.out]; simp [stands, hT.out, hE.out]
              go_wp2_with fail
              refine (i_tokenOk _ _ _ _ hk ht g0.out g1.out g2.out).mono ?_
              rintro e w2 ⟨rfl, hb2⟩
              rw [hT.out]
              have z0 := (hb2.cell (p := ⟨wr.heap.size, 0, none⟩) hltb.out).trans x0.out
              have hbz := hba.out.trans (hb2.mono hba.out.size)
              clear hb2
              go_wp2_with (go_at_call 105; refine (i_ends _ _).mono ?_; rintro e w' ⟨rfl, rfl⟩; rw [hE.out])
              go_roundw
              case rel => exact ⟨j + 1, _, by omega, hst, rfl, by go_num, hbz⟩
              case measure => simp [intOf]; omega
            · skip
              have hRF : R = false := by rw [hd.out, hstep.out]; simp [stands, hT.out, hE.out]
              subst hRF
              go_wp2_with fail
              refine (i_tokenOk _ _ _ _ hk ht g0.out g1.out g2.out).mono ?_
              rintro e w2 ⟨rfl, hb2⟩
              rw [hT.out]
              have z0 := (hb2.cell (p := ⟨wr.heap.size, 0, none⟩) hltb.out).trans x0.out
              have hbz := hba.out.trans (hb2.mono hba.out.size)
              clear hb2
              go_wp2_with (go_at_call 105; refine (i_ends _ _).mono ?_; rintro e w' ⟨rfl, rfl⟩; rw [hE.out])
              go_ret
              exact ⟨rfl, hbz⟩
          by_cases c58 : k = 58
          · subst c58
            cases E
            · skip
              have hRF : R = false := by rw [hd.out, hstep.out]; simp [stands, hT.out, hE.out]
              subst hRF
              go_wp2_with fail
              refine (i_tokenOk _ _ _ _ hk ht g0.out g1.out g2.out).mono ?_
              rintro e w2 ⟨rfl, hb2⟩
              rw [hT.out]
              have z0 := (hb2.cell (p := ⟨wr.heap.size, 0, none⟩) hltb.out).trans x0.out
              have hbz := hba.out.trans (hb2.mono hba.out.size)
              clear hb2
              go_wp2_with (go_at_call 105; refine (i_ends _ _).mono ?_; rintro e w' ⟨rfl, rfl⟩; rw [hE.out])
              go_ret
              exact ⟨rfl, hbz⟩
            · skip
              have hst : Hid (R = tokensGo (58) (l.drop (j + 1))) := by show _ = _; rw [hd.out, hstep.out]; simp [stands, hT.out, hE.out]
              go_wp2_with fail
              refine (i_tokenOk _ _ _ _ hk ht g0.out g1.out g2.out).mono ?_
              rintro e w2 ⟨rfl, hb2⟩
              rw [hT.out]
              have z0 := (hb2.cell (p := ⟨wr.heap.size, 0, none⟩) hltb.out).trans x0.out
              have hbz := hba.out.trans (hb2.mono hba.out.size)
              clear hb2
              go_wp2_with (go_at_call 105; refine (i_ends _ _).mono ?_; rintro e w' ⟨rfl, rfl⟩; rw [hE.out])
              go_roundw
              case rel => exact ⟨j + 1, _, by omega, hst, rfl, by go_num, hbz⟩
              case measure => simp [intOf]; omega
          by_cases c41 : k = 41
          · subst c41
            cases E
            · skip
              have hRF : R = false := by rw [hd.out, hstep.out]; simp [stands, hT.out, hE.out]
              subst hRF
              go_wp2_with fail
              refine (i_tokenOk _ _ _ _ hk ht g0.out g1.out g2.out).mono ?_
              rintro e w2 ⟨rfl, hb2⟩
              rw [hT.out]
              have z0 := (hb2.cell (p := ⟨wr.heap.size, 0, none⟩) hltb.out).trans x0.out
              have hbz := hba.out.trans (hb2.mono hba.out.size)
              clear hb2
              go_wp2_with (go_at_call 105; refine (i_ends _ _).mono ?_; rintro e w' ⟨rfl, rfl⟩; rw [hE.out])
              go_ret
              exact ⟨rfl, hbz⟩
            · skip
              have hst : Hid (R = tokensGo (41) (l.drop (j + 1))) := by show _ = _; rw [hd.out, hstep.out]; simp [stands, hT.out, hE.out]
              go_wp2_with fail
              refine (i_tokenOk _ _ _ _ hk ht g0.out g1.out g2.out).mono ?_
              rintro e w2 ⟨rfl, hb2⟩
              rw [hT.out]
              have z0 := (hb2.cell (p := ⟨wr.heap.size, 0, none⟩) hltb.out).trans x0.out
              have hbz := hba.out.trans (hb2.mono hba.out.size)
              clear hb2
              go_wp2_with (go_at_call 105; refine (i_ends _ _).mono ?_; rintro e w' ⟨rfl, rfl⟩; rw [hE.out])
              go_roundw
              case rel => exact ⟨j + 1, _, by omega, hst, rfl, by go_num, hbz⟩
              case measure => simp [intOf]; omega
          have d7 : (k == 7) = false := by simpa using c7
          have d2 : (k == 2) = false := by simpa using c2
          have d5 : (k == 5) = false := by simpa using c5
          have d58 : (k == 58) = false := by simpa using c58
          have d41 : (k == 41) = false := by simpa using c41
          have hst : Hid (R = tokensGo (k) (l.drop (j + 1))) := by show _ = _; rw [hd.out, hstep.out]; simp [stands, hT.out, c7, c2, c5, c58, c41]
          go_wp2_with fail
          refine (i_tokenOk _ _ _ _ hk ht g0.out g1.out g2.out).mono ?_
          rintro e w2 ⟨rfl, hb2⟩
          rw [hT.out]
          have z0 := (hb2.cell (p := ⟨wr.heap.size, 0, none⟩) hltb.out).trans x0.out
          have hbz := hba.out.trans (hb2.mono hba.out.size)
          clear hb2
          go_wp2_with (go_at_call 105; refine (i_ends _ _).mono ?_; rintro e w' ⟨rfl, rfl⟩; rw [hE.out])
          go_roundw
          case rel => exact ⟨j + 1, _, by omega, hst, rfl, by go_num, hbz⟩
          case measure => simp [intOf]; omega
      · have hNx := nextK_no (l := l) (j := j) (by rw [hnH.out]; omega)
        rw [hNx] at hstep0
        have hstep := Lib.hid hstep0
        clear hstep0 hkA hkc hc hcell hsz hnd hmem hNx
        cases hT : tokenOkB ⟨k, t, p⟩
        · have hT := Lib.hid hT
          have hE := Lib.hid (show endsB b = endsB b from rfl)
          have hRF : R = false := by rw [hd.out, hstep.out]; simp [stands, hT.out]
          subst hRF
          go_wp2_with fail
          refine (i_tokenOk _ _ _ _ hk ht g0.out g1.out g2.out).mono ?_
          rintro e w2 ⟨rfl, hb2⟩
          rw [hT.out]
          have z0 := (hb2.cell (p := ⟨wr.heap.size, 0, none⟩) hltb.out).trans x0.out
          have hbz := hba.out.trans (hb2.mono hba.out.size)
          clear hb2
          go_wp2_with (go_at_call 105; refine (i_ends _ _).mono ?_; rintro e w' ⟨rfl, rfl⟩; rw [hE.out])
          go_ret
          exact ⟨rfl, hbz⟩
        · have hT := Lib.hid hT
          obtain ⟨E, hE⟩ : ∃ E, endsB b = E := ⟨_, rfl⟩
          have hE := Lib.hid hE
          by_cases c7 : k = 7
          · subst c7
            have hRF : R = false := by rw [hd.out, hstep.out]; simp [stands, hT.out]
            subst hRF
            go_wp2_with fail
            refine (i_tokenOk _ _ _ _ hk ht g0.out g1.out g2.out).mono ?_
            rintro e w2 ⟨rfl, hb2⟩
            rw [hT.out]
            have z0 := (hb2.cell (p := ⟨wr.heap.size, 0, none⟩) hltb.out).trans x0.out
            have hbz := hba.out.trans (hb2.mono hba.out.size)
            clear hb2
            go_wp2_with (go_at_call 105; refine (i_ends _ _).mono ?_; rintro e w' ⟨rfl, rfl⟩; rw [hE.out])
            go_ret
            exact ⟨rfl, hbz⟩
          by_cases c2 : k = 2
          · subst c2
            have hst : Hid (R = tokensGo (2) (l.drop (j + 1))) := by show _ = _; rw [hd.out, hstep.out]; simp [stands, hT.out]
            go_wp2_with fail
            refine (i_tokenOk _ _ _ _ hk ht g0.out g1.out g2.out).mono ?_
            rintro e w2 ⟨rfl, hb2⟩
            rw [hT.out]
            have z0 := (hb2.cell (p := ⟨wr.heap.size, 0, none⟩) hltb.out).trans x0.out
            have hbz := hba.out.trans (hb2.mono hba.out.size)
            clear hb2
            go_wp2_with (go_at_call 105; refine (i_ends _ _).mono ?_; rintro e w' ⟨rfl, rfl⟩; rw [hE.out])
            go_roundw
            case rel => exact ⟨j + 1, _, by omega, hst, rfl, by go_num, hbz⟩
            case measure => simp [intOf]; omega
          by_cases c5 : k = 5
          · subst c5
            cases E
            · skip
              have hst : Hid (R = tokensGo (5) (l.drop (j + 1))) := by show _ = _; rw [hd.out, hstep.out]; simp [stands, hT.out, hE.out]
              go_wp2_with fail
              refine (i_tokenOk _ _ _ _ hk ht g0.out g1.out g2.out).mono ?_
              rintro e w2 ⟨rfl, hb2⟩
              rw [hT.out]
              have z0 := (hb2.cell (p := ⟨wr.heap.size, 0, none⟩) hltb.out).trans x0.out
              have hbz := hba.out.trans (hb2.mono hba.out.size)
              clear hb2
              go_wp2_with (go_at_call 105; refine (i_ends _ _).mono ?_; rintro e w' ⟨rfl, rfl⟩; rw [hE.out])
              go_roundw
              case rel => exact ⟨j + 1, _, by omega, hst, rfl, by go_num, hbz⟩
              case measure => simp [intOf]; omega
            · skip
              have hRF : R = false := by rw [hd.out, hstep.out]; simp [stands, hT.out, hE.out]
              subst hRF
              go_wp2_with fail
              refine (i_tokenOk _ _ _ _ hk ht g0.out g1.out g2.out).mono ?_
              rintro e w2 ⟨rfl, hb2⟩
              rw [hT.out]
              have z0 := (hb2.cell (p := ⟨wr.heap.size, 0, none⟩) hltb.out).trans x0.out
              have hbz := hba.out.trans (hb2.mono hba.out.size)
              clear hb2
              go_wp2_with (go_at_call 105; refine (i_ends _ _).mono ?_; rintro e w' ⟨rfl, rfl⟩; rw [hE.out])
              go_ret
              exact ⟨rfl, hbz⟩
          by_cases c58 : k = 58
          · subst c58
            cases E
            · skip
              have hRF : R = false := by rw [hd.out, hstep.out]; simp [stands, hT.out, hE.out]
              subst hRF
              go_wp2_with fail
              refine (i_tokenOk _ _ _ _ hk ht g0.out g1.out g2.out).mono ?_
              rintro e w2 ⟨rfl, hb2⟩
              rw [hT.out]
              have z0 := (hb2.cell (p := ⟨wr.heap.size, 0, none⟩) hltb.out).trans x0.out
              have hbz := hba.out.trans (hb2.mono hba.out.size)
              clear hb2
              go_wp2_with (go_at_call 105; refine (i_ends _ _).mono ?_; rintro e w' ⟨rfl, rfl⟩; rw [hE.out])
              go_ret
              exact ⟨rfl, hbz⟩
            · skip
              have hst : Hid (R = tokensGo (58) (l.drop (j + 1))) := by show _ = _; rw [hd.out, hstep.out]; simp [stands, hT.out, hE.out]
              go_wp2_with fail
              refine (i_tokenOk _ _ _ _ hk ht g0.out g1.out g2.out).mono ?_
              rintro e w2 ⟨rfl, hb2⟩
              rw [hT.out]
              have z0 := (hb2.cell (p := ⟨wr.heap.size, 0, none⟩) hltb.out).trans x0.out
              have hbz := hba.out.trans (hb2.mono hba.out.size)
              clear hb2
              go_wp2_with (go_at_call 105; refine (i_ends _ _).mono ?_; rintro e w' ⟨rfl, rfl⟩; rw [hE.out])
              go_roundw
              case rel => exact ⟨j + 1, _, by omega, hst, rfl, by go_num, hbz⟩
              case measure => simp [intOf]; omega
          by_cases c41 : k = 41
          · subst c41
            cases E
            · skip
              have hRF : R = false := by rw [hd.out, hstep.out]; simp [stands, hT.out, hE.out]
              subst hRF
              go_wp2_with fail
              refine (i_tokenOk _ _ _ _ hk ht g0.out g1.out g2.out).mono ?_
              rintro e w2 ⟨rfl, hb2⟩
              rw [hT.out]
              have z0 := (hb2.cell (p := ⟨wr.heap.size, 0, none⟩) hltb.out).trans x0.out
              have hbz := hba.out.trans (hb2.mono hba.out.size)
              clear hb2
              go_wp2_with (go_at_call 105; refine (i_ends _ _).mono ?_; rintro e w' ⟨rfl, rfl⟩; rw [hE.out])
              go_ret
              exact ⟨rfl, hbz⟩
            · skip
              have hst : Hid (R = tokensGo (41) (l.drop (j + 1))) := by show _ = _; rw [hd.out, hstep.out]; simp [stands, hT.out, hE.out]
              go_wp2_with fail
              refine (i_tokenOk _ _ _ _ hk ht g0.out g1.out g2.out).mono ?_
              rintro e w2 ⟨rfl, hb2⟩
              rw [hT.out]
              have z0 := (hb2.cell (p := ⟨wr.heap.size, 0, none⟩) hltb.out).trans x0.out
              have hbz := hba.out.trans (hb2.mono hba.out.size)
              clear hb2
              go_wp2_with (go_at_call 105; refine (i_ends _ _).mono ?_; rintro e w' ⟨rfl, rfl⟩; rw [hE.out])
              go_roundw
              case rel => exact ⟨j + 1, _, by omega, hst, rfl, by go_num, hbz⟩
              case measure => simp [intOf]; omega
          have d7 : (k == 7) = false := by simpa using c7
          have d2 : (k == 2) = false := by simpa using c2
          have d5 : (k == 5) = false := by simpa using c5
          have d58 : (k == 58) = false := by simpa using c58
          have d41 : (k == 41) = false := by simpa using c41
          have hst : Hid (R = tokensGo (k) (l.drop (j + 1))) := by show _ = _; rw [hd.out, hstep.out]; simp [stands, hT.out, c7, c5, c58, c41]
          go_wp2_with fail
          refine (i_tokenOk _ _ _ _ hk ht g0.out g1.out g2.out).mono ?_
          rintro e w2 ⟨rfl, hb2⟩
          rw [hT.out]
          have z0 := (hb2.cell (p := ⟨wr.heap.size, 0, none⟩) hltb.out).trans x0.out
          have hbz := hba.out.trans (hb2.mono hba.out.size)
          clear hb2
          go_wp2_with (go_at_call 105; refine (i_ends _ _).mono ?_; rintro e w' ⟨rfl, rfl⟩; rw [hE.out])
          go_roundw
          case rel => exact ⟨j + 1, _, by omega, hst, rfl, by go_num, hbz⟩
          case measure => simp [intOf]; omega
    · obtain rfl : j = n := by omega
      have hRT : R = true := by rw [hd.out, tokensGo_end (by rw [hnH.out]; exact Nat.le_refl _)]
      subst hRT
      clear hcell hsz
      go_wp2_with fail
      go_ret
      exact ⟨rfl, hb⟩
end Go.Proofs.YtdajhcammnlonaaDoor
/-! SameTok -/
namespace Go.Proofs.YtdajhcammnlonaaDoor
open Go.RowKit
set_option linter.unusedVariables false

def AllEq {α : Type} (f : α → α → Bool) (a b : List α) : Prop := a.length = b.length ∧ ∀ (j : Nat) (x y : α), a[j]? = some x → b[j]? = some y → f x y = true
open Classical in
noncomputable def allB {α : Type} (f : α → α → Bool) (a b : List α) : Bool := decide (AllEq f a b)
open Classical in
theorem allB_len {α : Type} {f : α → α → Bool} {a b : List α} (h : a.length ≠ b.length) : allB f a b = false := by
  unfold allB; exact decide_eq_false fun e => h e.1
open Classical in
theorem allB_no {α : Type} {f : α → α → Bool} {a b : List α} {j : Nat} {x y : α} (hx : a[j]? = some x) (hy : b[j]? = some y) (h : f x y = false) : allB f a b = false := by
  unfold allB; exact decide_eq_false fun e => by rw [e.2 j x y hx hy] at h; cases h
open Classical in
theorem allB_yes {α : Type} {f : α → α → Bool} {a b : List α} (hl : a.length = b.length) (h : ∀ (j : Nat) (x y : α), a[j]? = some x → b[j]? = some y → f x y = true) : allB f a b = true := by
  unfold allB; exact decide_eq_true ⟨hl, h⟩
def tokEq (a b : PTok) : Bool := a.kind == b.kind && a.text.toList == b.text.toList
/-- the cells of token j, read in a later world -/
theorem ToksIn.at {w wr : World} {A : Option Addr} {l : List PTok} {n c : Nat} (h : ToksIn w w.heap.size (.slice A n c) l) (hb : Below w.heap.size w wr) {j : Nat} {t : PTok} (ht : l[j]? = some t) :
    ∃ b off, A = some ⟨b, off, none⟩ ∧ wr.cell? ⟨b, off + j * 3, none⟩ = some (.int .i64 t.kind) ∧ wr.cell? ⟨b, off + j * 3 + 1, none⟩ = some (.string t.text) ∧ wr.cell? ⟨b, off + j * 3 + 2, none⟩ = some (.int .i64 t.at_) := by
  obtain ⟨A', c', e, _, _, hc, _⟩ := h
  obtain ⟨rfl, _, _⟩ := Value.slice.inj e
  obtain ⟨b, off, hA, hlt, hd⟩ := hc (by have := (List.getElem?_eq_some_iff.1 ht).1; omega)
  obtain ⟨e0, e1, e2⟩ := hd j t ht
  exact ⟨b, off, hA, (hb.cell (p := ⟨b, off + j * 3, none⟩) hlt).trans e0, (hb.cell (p := ⟨b, off + j * 3 + 1, none⟩) hlt).trans e1, (hb.cell (p := ⟨b, off + j * 3 + 2, none⟩) hlt).trans e2⟩
theorem cell_below {w : World} {b o : Nat} {v : Value} (h : w.cell? ⟨b, o, none⟩ = some v) : b < w.heap.size := by
  by_cases hlt : b < w.heap.size
  · exact hlt
  · rw [World.cell?] at h
    simp [Array.getElem?_eq_none (Nat.le_of_not_lt hlt)] at h
theorem below_drew {B : Nat} {a w : World} (h : Below B a w) : Below B a w.drew := below_drewN h 1
set_option maxRecDepth 100000 in
set_option maxHeartbeats 1000000 in
theorem s_sameTok (v1 v2 : Value) (l1 l2 : List PTok) (w : World) (h1 : ToksIn w w.heap.size v1 l1) (h2 : ToksIn w w.heap.size v2 l2) : Calls Tryd.prog 48 #[v1, v2] w (RetBool w (allB tokEq l1 l2)) := by
  have g1 := Lib.hid h1
  have g2 := Lib.hid h2
  obtain ⟨A1, c1, rfl, hlc1, hcm1, r1⟩ := h1
  obtain ⟨A2, c2, rfl, hlc2, hcm2, r2⟩ := h2
  unfold maxLen at hcm1 hcm2
  clear r1 r2
  obtain ⟨n, hn⟩ : ∃ n, l1.length = n := ⟨_, rfl⟩
  obtain ⟨m, hm⟩ : ∃ n, l2.length = n := ⟨_, rfl⟩
  rw [hn] at hlc1 g1
  rw [hm] at hlc2 g2
  rw [hn, hm]
  have hnH := Lib.hid hn
  have hmH := Lib.hid hm
  clear hn hm
  by_cases hnm : n = m
  · subst hnm
    obtain ⟨R, hR⟩ : ∃ R, allB tokEq l1 l2 = R := ⟨_, rfl⟩
    rw [hR]
    have hRH := Lib.hid hR
    clear hR
    go_enter Tryd.func48, Tryd.ntmps48
    go_wp2_with fail
    go_loopw [5] (fun i wr => ∃ (j : Nat), j ≤ n ∧ Hid (∀ t x y, t < j → l1[t]? = some x → l2[t]? = some y → tokEq x y = true) ∧ i = .int .i64 j ∧ Below w.heap.size w wr) (fun i _ => (n - (intOf i).toNat))
    case atStart => exact ⟨0, by omega, (fun t x y h => by omega : ∀ t x y, t < 0 → _), by go_num, Below.refl _ _⟩
    case round =>
      obtain ⟨j, hj, hd, rfl, hb⟩ := hrel
      by_cases hlt : j < n
      · obtain ⟨t, ht⟩ : ∃ t, l1[j]? = some t := ⟨l1[j]'(by rw [hnH.out]; exact hlt), List.getElem?_eq_getElem _⟩
        obtain ⟨s, hs⟩ : ∃ t, l2[j]? = some t := ⟨l2[j]'(by rw [hmH.out]; exact hlt), List.getElem?_eq_getElem _⟩
        obtain ⟨b1, o1, rfl, e0, e1, e2⟩ := g1.out.at hb ht
        obtain ⟨b2, o2, rfl, f0, f1, f2⟩ := g2.out.at hb hs
        have hno := fun (h : tokEq t s = false) => allB_no ht hs h
        have hst : tokEq t s = true → Hid (∀ i x y, i < j + 1 → l1[i]? = some x → l2[i]? = some y → tokEq x y = true) := fun h i x y hi hx hy => by
          by_cases e : i = j
          · subst e
            rw [ht] at hx; rw [hs] at hy
            rw [← Option.some.inj hx, ← Option.some.inj hy]; exact h
          · exact hd.out i x y (by omega) hx hy
        clear ht hs
        cases hk : t.kind == s.kind
        · have hR := Lib.hid (hno (by rw [tokEq, hk]; rfl))
          clear hno hst
          have hRF : R = false := by rw [← hRH.out, hR.out]
          have hk' : (t.kind != s.kind) = true := by rw [bne, hk]; rfl
          clear hk
          subst hRF
          go_wp2_with fail
          go_quiet (fail)
          have hb := below_drewN hb nq
          generalize wr.drewN nq = w2 at hb ⊢
          go_wp2_with fail
          go_ret
          exact ⟨rfl, hb⟩
        · have hk' := eq_of_beq hk
          rw [hk'] at e0
          cases hx : t.text.toList == s.text.toList
          · have hR := Lib.hid (hno (by rw [tokEq, hk, hx]; rfl))
            clear hno hst
            have hRF : R = false := by rw [← hRH.out, hR.out]
            clear hk hk'
            subst hRF
            go_wp2_with fail
            go_quiet (fail)
            have hb := below_drewN hb nq
            generalize wr.drewN nq = w2 at hb ⊢
            go_wp2_with fail
            go_ret
            exact ⟨rfl, hb⟩
          · have hst := hst (by rw [tokEq, hk, hx]; rfl)
            clear hno hk hk'
            go_wp2_with fail
            go_quiet (fail)
            have hb := below_drewN hb nq
            generalize wr.drewN nq = w2 at hb ⊢
            go_wp2_with fail
            go_roundw
            case rel => exact ⟨j + 1, by omega, hst, by go_num, hb⟩
            case measure => simp [intOf]; omega
      · obtain rfl : j = n := by omega
        have hR : Hid (allB tokEq l1 l2 = true) := allB_yes (by rw [hnH.out, hmH.out]) fun i x y hx hy => hd.out i x y (by have := (List.getElem?_eq_some_iff.1 hx).1; have := hnH.out; omega) hx hy
        have hRT : R = true := by rw [← hRH.out, hR.out]
        subst hRT
        go_wp2_with fail
        go_ret
        exact ⟨rfl, hb⟩
  · have hR : allB tokEq l1 l2 = false := allB_len (by rw [hnH.out, hmH.out]; exact hnm)
    rw [hR]
    clear hR
    have hq : ((n : Int) != (m : Int)) = true := by simp; omega
    go_enter Tryd.func48, Tryd.ntmps48
    go_wp2_with fail
    go_ret
    exact ⟨rfl, Below.refl _ _⟩
set_option maxRecDepth 100000 in
theorem i_tokEq (a b : PTok) (w : World) : Calls Tryd.prog 104 #[.agg #[.int .i64 a.kind, .string a.text, .int .i64 a.at_], .agg #[.int .i64 b.kind, .string b.text, .int .i64 b.at_]] w (RetBool w (tokEq a b)) := by
  have hb : Below w.heap.size w ((w.alloc (.cells #[.int .i64 a.kind, .string a.text, .int .i64 a.at_] 36)).alloc (.cells #[.int .i64 b.kind, .string b.text, .int .i64 b.at_] 36)) := ((Below.refl _ _).alloc (Nat.le_refl _) _).alloc (by simp) _
  cases hk : a.kind == b.kind
  · have hR : tokEq a b = false := by rw [tokEq, hk]; rfl
    rw [hR]
    clear hR
    go_enter Tryd.func104, Tryd.ntmps104
    go_wp2_with fail
    go_ret
    exact ⟨rfl, hb⟩
  · cases hx : a.text.toList == b.text.toList
    · have hR : tokEq a b = false := by rw [tokEq, hk, hx]; rfl
      rw [hR]
      clear hR
      go_enter Tryd.func104, Tryd.ntmps104
      go_wp2_with fail
      go_ret
      exact ⟨rfl, hb⟩
    · have hR : tokEq a b = true := by rw [tokEq, hk, hx]; rfl
      rw [hR]
      clear hR
      go_enter Tryd.func104, Tryd.ntmps104
      go_wp2_with fail
      go_ret
      exact ⟨rfl, hb⟩
set_option maxRecDepth 100000 in
set_option maxHeartbeats 1000000 in
theorem eqf_tok (v1 v2 : Value) (l1 l2 : List PTok) (w : World) (h1 : ToksIn w w.heap.size v1 l1) (h2 : ToksIn w w.heap.size v2 l2) : Calls Tryd.prog 103 #[v1, v2, .func (.func 104) #[] #[]] w (RetBool w (allB tokEq l1 l2)) := by
  have g1 := Lib.hid h1
  have g2 := Lib.hid h2
  obtain ⟨A1, c1, rfl, hlc1, hcm1, r1⟩ := h1
  obtain ⟨A2, c2, rfl, hlc2, hcm2, r2⟩ := h2
  unfold maxLen at hcm1 hcm2
  clear r1 r2
  obtain ⟨n, hn⟩ : ∃ n, l1.length = n := ⟨_, rfl⟩
  obtain ⟨m, hm⟩ : ∃ n, l2.length = n := ⟨_, rfl⟩
  rw [hn] at hlc1 g1
  rw [hm] at hlc2 g2
  rw [hn, hm]
  have hnH := Lib.hid hn
  have hmH := Lib.hid hm
  clear hn hm
  by_cases hnm : n = m
  · subst hnm
    obtain ⟨R, hR⟩ : ∃ R, allB tokEq l1 l2 = R := ⟨_, rfl⟩
    rw [hR]
    have hRH := Lib.hid hR
    clear hR
    go_enter Tryd.func103, Tryd.ntmps103
    go_wp2_with fail
    go_loopw [17] (fun i wr => ∃ (j : Nat), j ≤ n ∧ Hid (∀ t x y, t < j → l1[t]? = some x → l2[t]? = some y → tokEq x y = true) ∧ i = .int .i64 j ∧ Below w.heap.size w wr) (fun i _ => (n - (intOf i).toNat))
    case atStart => exact ⟨0, by omega, (fun t x y h => by omega : ∀ t x y, t < 0 → _), by go_num, Below.refl _ _⟩
    case round =>
      obtain ⟨j, hj, hd, rfl, hb⟩ := hrel
      by_cases hlt : j < n
      · obtain ⟨t, ht⟩ : ∃ t, l1[j]? = some t := ⟨l1[j]'(by rw [hnH.out]; exact hlt), List.getElem?_eq_getElem _⟩
        obtain ⟨s, hs⟩ : ∃ t, l2[j]? = some t := ⟨l2[j]'(by rw [hmH.out]; exact hlt), List.getElem?_eq_getElem _⟩
        obtain ⟨b1, o1, rfl, e0, e1, e2⟩ := g1.out.at hb ht
        obtain ⟨b2, o2, rfl, f0, f1, f2⟩ := g2.out.at hb hs
        have hl1 : b1 < wr.heap.size := by have := cell_below e0; exact this
        have hl2 : b2 < wr.heap.size := by have := cell_below f0; exact this
        have hno := fun (h : tokEq t s = false) => allB_no ht hs h
        have hst : tokEq t s = true → Hid (∀ i x y, i < j + 1 → l1[i]? = some x → l2[i]? = some y → tokEq x y = true) := fun h i x y hi hx hy => by
          by_cases e : i = j
          · subst e
            rw [ht] at hx; rw [hs] at hy
            rw [← Option.some.inj hx, ← Option.some.inj hy]; exact h
          · exact hd.out i x y (by omega) hx hy
        have hcl := fun W => i_tokEq t s W
        clear ht hs
        cases hk : tokEq t s
        · have hR := Lib.hid (hno hk)
          have hRF : R = false := by rw [← hRH.out, hR.out]
          rw [hk] at hcl
          clear hno hst hk
          subst hRF
          go_wp2_with fail
          refine (hcl _).mono ?_
          rintro e w2 ⟨rfl, hb2⟩
          have hb3 : Below w.heap.size w w2 := (((hb.alloc hb.size _).alloc (by have := hb.size; simp; omega) _)).trans (hb2.mono (by have := hb.size; simp; omega))
          go_wp2_with fail
          go_ret
          exact ⟨rfl, hb3⟩
        · have hst := hst hk
          rw [hk] at hcl
          clear hno hk
          go_wp2_with fail
          refine (hcl _).mono ?_
          rintro e w2 ⟨rfl, hb2⟩
          have hb3 : Below w.heap.size w w2 := (((hb.alloc hb.size _).alloc (by have := hb.size; simp; omega) _)).trans (hb2.mono (by have := hb.size; simp; omega))
          go_wp2_with fail
          go_roundw
          case rel => exact ⟨j + 1, by omega, hst, by go_num, hb3⟩
          case measure => simp [intOf]; omega
      · obtain rfl : j = n := by omega
        have hR : Hid (allB tokEq l1 l2 = true) := allB_yes (by rw [hnH.out, hmH.out]) fun i x y hx hy => hd.out i x y (by have := (List.getElem?_eq_some_iff.1 hx).1; have := hnH.out; omega) hx hy
        have hRT : R = true := by rw [← hRH.out, hR.out]
        subst hRT
        go_wp2_with fail
        go_ret
        exact ⟨rfl, hb⟩
  · have hR : allB tokEq l1 l2 = false := allB_len (by rw [hnH.out, hmH.out]; exact hnm)
    rw [hR]
    clear hR
    have hq : ((n : Int) != (m : Int)) = true := by simp; omega
    go_enter Tryd.func103, Tryd.ntmps103
    go_wp2_with fail
    go_ret
    exact ⟨rfl, Below.refl _ _⟩
set_option maxRecDepth 100000 in
theorem i_sameTok (v1 v2 : Value) (l1 l2 : List PTok) (w : World) (h1 : ToksIn w w.heap.size v1 l1) (h2 : ToksIn w w.heap.size v2 l2) : Calls Tryd.prog 49 #[v1, v2] w (RetBool w (allB tokEq l1 l2)) := by
  go_enter Tryd.func49, Tryd.ntmps49
  go_wp2_with fail
  refine (eqf_tok v1 v2 l1 l2 w h1 h2).mono ?_
  rintro e w2 ⟨rfl, hb2⟩
  go_wp2_with fail
  go_ret
  exact ⟨rfl, hb2⟩
end Go.Proofs.YtdajhcammnlonaaDoor
/-! DrawToks -/
namespace Go.Proofs.YtdajhcammnlonaaDoor
open Go.RowKit
set_option linter.unusedVariables false
theorem OwnT.away {w w' : World} {base g : Nat} {v : Value} {l : List PTok} (h : OwnT w base v l) (ha : Away g w w') (hg : g < base) : OwnT w' base v l := by
  obtain ⟨h1, h2⟩ := h
  refine ⟨h1, ?_⟩
  rcases h2 with h2 | ⟨k, cap, cur, hv, hb, hh, r⟩
  · exact Or.inl h2
  · have hk : k < w.heap.size := (show Has w k _ cur from hh).lt
    exact Or.inr ⟨k, cap, cur, hv, hb, (ha.block k hk (by omega)).trans hh, r⟩
theorem OwnT.setO {w : World} {base b o : Nat} {v : Value} {l : List PTok} (h : OwnT w base v l) (hne : some b ≠ v.ownBlock) (u : Value) : OwnT (w.setCell ⟨b, o, none⟩ u) base v l := by
  obtain ⟨h1, h2⟩ := h
  refine ⟨h1, ?_⟩
  rcases h2 with h2 | ⟨k, cap, cur, rfl, hb, hh, r⟩
  · exact Or.inl h2
  · exact Or.inr ⟨k, cap, cur, rfl, hb, (Below.heap_setCell w ⟨b, o, none⟩ u k (fun e => hne (by rw [show b = k from e.symm]; rfl))).trans hh, r⟩
theorem OwnT.form {w : World} {base : Nat} {v : Value} {l : List PTok} (h : OwnT w base v l) : ∃ A cap, v = .slice A l.length cap ∧ l.length ≤ cap ∧ cap ≤ maxLen ∧ (0 < l.length → ∃ b, A = some ⟨b, 0, none⟩ ∧ base ≤ b ∧ ∃ cur, Has w b 36 cur ∧ cur.size = cap * 3 ∧ ∀ (i : Nat) (x : Value), (tokCells l)[i]? = some x → cur[i]? = some x) := by
  obtain ⟨_, h2⟩ := h
  rcases h2 with ⟨rfl, h0⟩ | ⟨g, cap, cur, rfl, hb, hh, q1, q2, hsz, htk⟩
  · exact ⟨none, 0, by rw [h0], by omega, by unfold maxLen; omega, fun h => by omega⟩
  · refine ⟨_, cap, rfl, q1, q2, fun _ => ⟨g, rfl, hb, cur, hh, hsz, fun i x hx => ?_⟩⟩
    have hi := (List.getElem?_eq_some_iff.1 hx).1
    rw [tokCells_len] at hi
    have h3 : (cur.toList.take (l.length * 3))[i]? = (tokCells l)[i]? := by rw [htk]
    rw [List.getElem?_take_of_lt hi, Array.getElem?_toList, hx] at h3
    exact h3
theorem one_newt_at (w : World) (n : Nat) (hn : w.heap.size = n) (t : PTok) (e : TypeId) : ∀ j b, (tokCells [t])[j]? = some b → (w.alloc (.cells #[.int .i64 t.kind, .string t.text, .int .i64 t.at_] e)).cell? ⟨n, j, none⟩ = some b := by
  subst hn
  exact one_newt w t e
theorem app_tok_at {ops : Array Oper} {rest : List Oper} {o : Oper} {a : Act} {Q : Exit → Act → World → Prop} {w : World} (hgd : o.guard = none) (s x : Operand)
    (ho : o.op = .call { callee := .builtin .append, args := #[s, x], argTypes := #[46, 46] }) (base : Nat) (v : Value) (l : List PTok) (hs : a.eval s = v) (hown : OwnT w base v l)
    (g c : Nat) (t : PTok) (hx : a.eval x = .slice (some ⟨g, 0, none⟩) 1 c) (hnew : ∀ j b, (tokCells [t])[j]? = some b → w.cell? ⟨g, j, none⟩ = some b)
    (hsz : l.length + 1 ≤ 1048576) (hbase : base ≤ w.heap.size)
    (h : ∀ v' w', OwnT w' base v' (l ++ [t]) → Below base w w' → w.grownBy w' v.ownBlock → (v'.ownBlock = v.ownBlock ∨ v'.ownBlock = some w.heap.size) → wpList Tryd.prog ops Q rest (a.put o.dst v') w') : wpList Tryd.prog ops Q (o :: rest) a w := by
  obtain ⟨i0, hi, hz0, hz1, hz2⟩ := info_parts info_tok
  refine wpList_append_own_at w hgd s x 46 ho base 36 i0 _ 3 32 Tryd.underlying46 hi hz0 hz1 hz2 rfl (by decide) v l.length _ hs hown ⟨g, 0, none⟩ 1 c (tokCells [t]) hx rfl ?_ ?_ (by unfold maxLen; omega) (by omega) hbase ?_
  · intro j u hu
    have e : (⟨g, 0, none⟩ : Addr).add j = ⟨g, j, none⟩ := by unfold Addr.add; split <;> simp_all
    rw [e]
    exact hnew j u hu
  · intro u hu
    simp [tokCells] at hu
    rcases hu with rfl | rfl | rfl <;> rfl
  · intro v' w' h2 h3 _ h5
    refine h v' w' ?_ ?_ h3 h5
    · unfold OwnT
      rw [List.length_append, tokCells_app]
      exact h2
    · exact (Below.refl base w).grown h3 hbase (fun k hk => (hown.lt k hk).1)
theorem tokCells_extD {l : List PTok} {cur : List Value} (hs : l.length * 3 ≤ cur.length) (h : ∀ i t, l[i]? = some t → cur[i * 3]? = some (.int .i64 t.kind) ∧ cur[i * 3 + 1]? = some (.string t.text) ∧ cur[i * 3 + 2]? = some (.int .i64 t.at_)) : cur.take (l.length * 3) = tokCells l := by
  induction l generalizing cur with
  | nil => simp [tokCells]
  | cons t l ih =>
    obtain ⟨a, b, c, r, rfl⟩ : ∃ a b c r, cur = a :: b :: c :: r := by
      match cur, hs with
      | a :: b :: c :: r, _ => exact ⟨a, b, c, r, rfl⟩
      | [], hs => simp at hs
      | [_], hs => simp at hs; omega
      | [_, _], hs => simp at hs; omega
    obtain ⟨h0, h1, h2⟩ := h 0 t rfl
    simp at h0 h1 h2
    subst h0 h1 h2
    have e : (t :: l).length * 3 = l.length * 3 + 3 := by simp only [List.length_cons]; omega
    rw [e]
    simp only [List.take_succ_cons, tokCells]
    rw [ih (by simp only [List.length_cons] at hs; omega) (fun i u hu => ?_)]
    obtain ⟨g0, g1, g2⟩ := h (i + 1) u (by simpa using hu)
    have e1 : (i + 1) * 3 = i * 3 + 3 := by omega
    rw [e1] at g0 g1 g2
    exact ⟨by simpa using g0, by rw [show i * 3 + 3 + 1 = i * 3 + 1 + 3 by omega] at g1; simpa using g1, by rw [show i * 3 + 3 + 2 = i * 3 + 2 + 3 by omega] at g2; simpa using g2⟩
theorem OwnT.setAt {w : World} {base b cap : Nat} {cs : Array Value} {l : List PTok} (hg : base ≤ b) (h : Has w b 36 cs) (hc : l.length ≤ cap) (hm : cap ≤ maxLen) (hs : cs.size = cap * 3) (hf : ∀ (i : Nat) (x : Value), (tokCells l)[i]? = some x → cs[i]? = some x) {j : Nat} (hj : j < l.length) (t : PTok) :
    OwnT (set3 w b (j * 3) (.int .i64 t.kind) (.string t.text) (.int .i64 t.at_)) base (.slice (some ⟨b, 0, none⟩) l.length cap) (l.set j t) := by
  have hl : (l.set j t).length = l.length := List.length_set
  refine ⟨by rw [tokCells_len], .inr ⟨b, cap, _, by rw [hl], hg, h.set3 _ _ _ _, by rw [hl]; exact hc, hm, by rw [put3_size]; exact hs, ?_⟩⟩
  refine tokCells_extD (by
    rw [hl]
    have e := (Array.length_toList (xs := put3 cs (j * 3) (.int .i64 t.kind) (.string t.text) (.int .i64 t.at_))).trans ((put3_size _ _ _ _ _).trans hs)
    omega) (fun i u hu => ?_)
  simp only [Array.getElem?_toList]
  by_cases e : i = j
  · subst e
    rw [List.getElem?_set_self hj] at hu
    obtain rfl := Option.some.inj hu
    exact put3_at cs (i * 3) _ _ _ (by omega)
  · rw [List.getElem?_set_ne (fun q => e q.symm)] at hu
    obtain ⟨e0, e1, e2⟩ := tokCells_get hu
    refine ⟨?_, ?_, ?_⟩
    · rw [put3_other _ _ _ _ _ _ (by omega)]; exact hf _ _ e0
    · rw [put3_other _ _ _ _ _ _ (by omega)]; exact hf _ _ e1
    · rw [put3_other _ _ _ _ _ _ (by omega)]; exact hf _ _ e2
theorem OwnT.at_ {w : World} {base L cap : Nat} {A : Option Addr} {l : List PTok} (h : OwnT w base (.slice A L cap) l) (hL : 0 < L) : l.length = L ∧ L ≤ cap ∧ cap ≤ maxLen ∧ ∃ b, A = some ⟨b, 0, none⟩ ∧ base ≤ b ∧ ∃ cur, Has w b 36 cur ∧ cur.size = cap * 3 ∧ ∀ (i : Nat) (x : Value), (tokCells l)[i]? = some x → cur[i]? = some x := by
  obtain ⟨A', cap', e, h1, h2, h3⟩ := h.form
  injection e with e1 e2 e3
  subst e1 e2 e3
  exact ⟨rfl, h1, h2, h3 hL⟩
theorem drawn_set {l : List PTok} {t : PTok} (h : ∀ t ∈ l, drawnTok t) (ht : drawnTok t) (j : Nat) : ∀ x ∈ l.set j t, drawnTok x := by
  intro x hx
  rcases List.mem_or_eq_of_mem_set hx with hx | rfl
  · exact h x hx
  · exact ht
def RetToksD (w : World) (g : Nat) (cs : List UInt8) (m : Nat) (e : Ending) (w' : World) : Prop := ∃ v l s', e = .returned v ∧ ToksIn w' w'.heap.size v l ∧ FromOn w.heap.size v ∧ (∀ t ∈ l, drawnTok t) ∧ l.length ≤ 2 * m ∧ Cur w' g cs s' ∧ Away g w w'
theorem drawn_all {l : List PTok} {t : PTok} (h : ∀ t ∈ l, drawnTok t) (ht : drawnTok t) : ∀ x ∈ l ++ [t], drawnTok x := by
  intro x hx
  rcases List.mem_append.1 hx with hx | hx
  · exact h x hx
  · obtain rfl := List.mem_singleton.1 hx
    exact ht
theorem drawn_ok {l : List PTok} (h : ∀ t ∈ l, drawnTok t) : ∀ t ∈ l, okInt t.kind ∧ t.text.size ≤ maxLen ∧ okInt t.at_ := fun t ht => by
  obtain ⟨h1, h2, h3⟩ := h t ht
  unfold okInt maxLen
  omega
def noteS : List ByteArray := [⟨#[35]⟩, ⟨#[35, 32, 97]⟩, ⟨#[35, 34, 120]⟩]
theorem noteS_size : ∀ x ∈ noteS, x.size ≤ 16 := by decide
/-- Behind the switch: the row, the token at hand, the cursor. -/
def MidD (w : World) (g : Nat) (cs : List UInt8) (b n : Nat) (v : Value) (wx : World) : Prop := ∃ (l : List PTok) (t : PTok) (s' : Nat × Int), l.length ≤ n ∧ Hid (∀ t ∈ l, drawnTok t) ∧ Hid (drawnTok t) ∧ Hid (OwnT wx w.heap.size v l) ∧ Hid (some b ≠ v.ownBlock) ∧ Hid (Has wx b 36 #[.int .i64 t.kind, .string t.text, .int .i64 0]) ∧ Hid (Cur wx g cs s') ∧ Hid (Away g w wx)
/-- The same, the row and the token given. -/
def AtD (w : World) (g : Nat) (cs : List UInt8) (b : Nat) (l : List PTok) (t : PTok) (v : Value) (wx : World) : Prop := ∃ (s' : Nat × Int), Hid (OwnT wx w.heap.size v l) ∧ Hid (some b ≠ v.ownBlock) ∧ Hid (Has wx b 36 #[.int .i64 t.kind, .string t.text, .int .i64 0]) ∧ Hid (Cur wx g cs s') ∧ Hid (Away g w wx)
theorem AtD.mid {w : World} {g : Nat} {cs : List UInt8} {b n : Nat} {l : List PTok} {t : PTok} {v : Value} {wx : World} (h : AtD w g cs b l t v wx) (hn : l.length ≤ n) (h1 : ∀ t ∈ l, drawnTok t) (h2 : drawnTok t) : MidD w g cs b n v wx := by
  obtain ⟨s', a, b', c, d, e⟩ := h
  exact ⟨l, t, s', hn, h1, h2, a, b', c, d, e⟩
theorem Has.setTok {w : World} {b : Nat} {T : TypeId} {x0 x1 x2 : Value} (h : Has w b T #[x0, x1, x2]) (y0 y1 y2 : Value) : Has (((w.setCell ⟨b, 0, none⟩ y0).setCell ⟨b, 1, none⟩ y1).setCell ⟨b, 2, none⟩ y2) b T #[y0, y1, y2] := by
  simpa using ((h.set 0 y0).set 1 y1).set 2 y2
theorem AtD.setTok {w : World} {g : Nat} {cs : List UInt8} {b : Nat} {l : List PTok} {t : PTok} {v : Value} {wx : World} (h : AtD w g cs b l t v wx) (hb : w.heap.size ≤ b) (hg : g < w.heap.size) (u : PTok) : AtD w g cs b l u v (((wx.setCell ⟨b, 0, none⟩ (.int .i64 u.kind)).setCell ⟨b, 1, none⟩ (.string u.text)).setCell ⟨b, 2, none⟩ (.int .i64 0)) := by
  obtain ⟨s', h1, h2, h3, h4, h5⟩ := h
  have hB : Below w.heap.size wx (((wx.setCell ⟨b, 0, none⟩ (.int .i64 u.kind)).setCell ⟨b, 1, none⟩ (.string u.text)).setCell ⟨b, 2, none⟩ (.int .i64 0)) := (((Below.refl _ _).setCell (p := ⟨b, _, none⟩) hb _).setCell (p := ⟨b, _, none⟩) hb _).setCell (p := ⟨b, _, none⟩) hb _
  exact ⟨s', ((h1.out.setO h2.out _).setO h2.out _).setO h2.out _, h2, h3.out.setTok _ _ _, h4.out.keep hB hg, h5.out.then_below hB⟩
theorem AtD.away {w : World} {g : Nat} {cs : List UInt8} {b : Nat} {l : List PTok} {t : PTok} {v : Value} {wx wy : World} (h : AtD w g cs b l t v wx) {s' : Nat × Int} (hc : Cur wy g cs s') (ha : Away g wx wy) (hb : w.heap.size ≤ b) (hg : g < w.heap.size) : AtD w g cs b l t v wy := by
  obtain ⟨_, h1, h2, h3, h4, h5⟩ := h
  exact ⟨s', h1.out.away ha hg, h2, ha.has h3.out (by omega), hc, h5.out.trans ha⟩
theorem AtD.alloc {w : World} {g : Nat} {cs : List UInt8} {b : Nat} {l : List PTok} {t : PTok} {v : Value} {wx : World} (h : AtD w g cs b l t v wx) (o : Obj) : AtD w g cs b l t v (wx.alloc o) := by
  obtain ⟨s', h1, h2, h3, h4, h5⟩ := h
  exact ⟨s', h1.out.alloc o, h2, h3.out.alloc o, h4.out.alloc o, h5.out.alloc o⟩
theorem AtD.setKind {w : World} {g : Nat} {cs : List UInt8} {b : Nat} {l : List PTok} {t : PTok} {v : Value} {wx : World} (h : AtD w g cs b l t v wx) (hb : w.heap.size ≤ b) (hg : g < w.heap.size) (k : Int) : AtD w g cs b l ⟨k, t.text, 0⟩ v (wx.setCell ⟨b, 0, none⟩ (.int .i64 k)) := by
  obtain ⟨s', h1, h2, h3, h4, h5⟩ := h
  have hB : Below w.heap.size wx (wx.setCell ⟨b, 0, none⟩ (.int .i64 k)) := (Below.refl _ _).setCell (p := ⟨b, _, none⟩) hb _
  exact ⟨s', h1.out.setO h2.out _, h2, Lib.hid (by simpa using h3.out.set 0 (.int .i64 k)), h4.out.keep hB hg, h5.out.then_below hB⟩
theorem AtD.app {w : World} {g : Nat} {cs : List UInt8} {b : Nat} {l l' : List PTok} {t : PTok} {v v' : Value} {wx wy : World} (h : AtD w g cs b l t v wx) (hg : g < w.heap.size) (ho : OwnT wy w.heap.size v' l') (hB : Below w.heap.size wx wy) (hgr : wx.grownBy wy v.ownBlock) (hat : v'.ownBlock = v.ownBlock ∨ v'.ownBlock = some wx.heap.size) : AtD w g cs b l' t v' wy := by
  obtain ⟨s', h1, h2, h3, h4, h5⟩ := h
  have hb := h3.out.lt
  refine ⟨s', ho, ?_, h3.out.grown hgr h2.out, h4.out.keep hB hg, h5.out.then_below hB⟩
  rcases hat with e | e
  · intro q
    exact h2.out (q.trans e)
  · intro q
    have q2 := Option.some.inj (q.trans e)
    omega
theorem AtD.made {w : World} {g : Nat} {cs : List UInt8} {l : List PTok} {v : Value} {wx : World} {s' : Nat × Int} (hc : Cur wx g cs s') (ho : OwnT wx w.heap.size v l) (ha : Away g w wx) (t : PTok) : AtD w g cs wx.heap.size l t v (wx.alloc (.cells #[.int .i64 t.kind, .string t.text, .int .i64 0] 36)) :=
  ⟨s', ho.alloc _, ho.apart (Or.inr (Nat.le_refl _)), Has.made _ _ _, hc.alloc _, ha.alloc _⟩
theorem AtD.own {w : World} {g : Nat} {cs : List UInt8} {b : Nat} {l : List PTok} {t : PTok} {v : Value} {wx : World} (h : AtD w g cs b l t v wx) : OwnT wx w.heap.size v l := by
  obtain ⟨s', h1, h2, h3, h4, h5⟩ := h
  exact h1.out
theorem AtD.has {w : World} {g : Nat} {cs : List UInt8} {b : Nat} {l : List PTok} {t : PTok} {v : Value} {wx : World} (h : AtD w g cs b l t v wx) : Has wx b 36 #[.int .i64 t.kind, .string t.text, .int .i64 0] := by
  obtain ⟨s', h1, h2, h3, h4, h5⟩ := h
  exact h3.out
theorem AtD.cur {w : World} {g : Nat} {cs : List UInt8} {b : Nat} {l : List PTok} {t : PTok} {v : Value} {wx : World} (h : AtD w g cs b l t v wx) : ∃ s', Cur wx g cs s' := by
  obtain ⟨s', h1, h2, h3, h4, h5⟩ := h
  exact ⟨s', h4.out⟩
set_option maxRecDepth 100000 in
set_option maxHeartbeats 16000000 in
theorem d_tokens (g : Nat) (cs : List UInt8) (s : Nat × Int) (m : Nat) (w : World) (hm : m ≤ 100) (hc : Cur w g cs s) : Calls Tryd.prog 98 #[.pointer (some ⟨g, 0, none⟩), .int .i64 m] w (RetToksD w g cs m) := by
  have hlt := hc.lt
  have hc0 := Lib.hid (hc.alloc (.cells #[] 36))
  have hO0 := Lib.hid (OwnT.start w (Nat.le_refl w.heap.size))
  have hA0 := Lib.hid ((Away.refl g w).alloc (.cells #[] 36))
  clear hc
  go_enter Tryd.func98, Tryd.ntmps98
  go_wp2_with fail
  refine (d_below _ _ _ _ _ (by omega) hc0.out).mono ?_
  rintro e w1 ⟨rfl, hc1, ha1⟩
  have hq := belowD_lt cs (show (0 : Int) < (m : Int) + 1 by omega) s
  obtain ⟨q0, hq0⟩ : ∃ q : Nat, belowD cs ((m : Int) + 1) s = (q : Int) := Int.eq_ofNat_of_zero_le hq.1
  rw [hq0] at hq ⊢
  clear hq0
  have hO1 := Lib.hid (hO0.out.away ha1 hlt)
  have hA1 := Lib.hid (hA0.out.trans ha1)
  have hc1 := Lib.hid hc1
  clear ha1
  go_wp2_with fail
  go_loopw [5, 6] (fun v x wr => ∃ (l : List PTok) (q : Nat) (s' : Nat × Int), l.length + 2 * q ≤ 2 * m ∧ x = .int .i64 q ∧ Hid (∀ t ∈ l, drawnTok t) ∧ Hid (OwnT wr w.heap.size v l) ∧ Hid (Cur wr g cs s') ∧ Hid (Away g w wr)) (fun _ x _ => (intOf x).toNat)
  case atStart => exact ⟨[], q0, _, by simp; omega, rfl, (fun t ht => by cases ht), hO1, hc1, hA1⟩
  case round =>
    obtain ⟨l, q, s', hl, rfl, hall, hO, hc3, hA3⟩ := hrel
    by_cases h0 : q = 0
    · subst h0
      obtain ⟨A, cap, rfl, hcap, hcm, hrow⟩ := hO.out.form
      unfold maxLen at hcm
      obtain ⟨L, hLL⟩ : ∃ L, l.length = L := ⟨_, rfl⟩
      rw [hLL] at hcap hrow hO hl ⊢
      clear hrow
      go_upto_region 19 with fail
      go_cut [89] (fun s89 wx => ∃ s', Hid (Cur wx g cs s') ∧ Hid (OwnT wx w.heap.size (.slice A L cap) l) ∧ Hid (Away g w wx) ∧ ∃ B : Bool, s89 = .bool B ∧ (B = true → 0 < L))
      case first =>
        rcases Nat.eq_zero_or_pos L with h | h
        · subst h
          go_wp2_with fail
          go_meet
          exact ⟨_, hc3, hO, hA3, _, rfl, by simp⟩
        · obtain ⟨n, rfl⟩ : ∃ n, L = n + 1 := ⟨L - 1, by omega⟩
          go_wp2_with fail
          refine (d_once _ _ _ _ _ (by omega) hc3.out).mono ?_
          rintro e w5 ⟨rfl, hc5, ha5⟩
          obtain ⟨B, hB⟩ : ∃ B, (belowD cs 10 s' == 0) = B := ⟨_, rfl⟩
          rw [hB]
          clear hB
          have hO5 := Lib.hid (hO.out.away ha5 hlt)
          have hA5 := Lib.hid (hA3.out.trans ha5)
          have hc5 := Lib.hid hc5
          clear ha5
          go_wp2_with fail
          go_meet
          exact ⟨_, hc5, hO5, hA5, _, rfl, fun _ => h⟩
      case rest =>
      clear hc3 hO hA3
      obtain ⟨s6, hc6, hO6, hA6, B, rfl, hB⟩ := hcut
      cases B
      · clear hB
        go_wp2_with fail
        exact bodyPost_ret (v := .slice A L cap) (by simp [results, Tryd.results98, go_sem]) rfl ⟨_, l, s6, rfl, (hO6.out.toks (drawn_ok hall.out)).1, (hO6.out.toks (drawn_ok hall.out)).2, hall.out, by omega, hc6.out, hA6.out⟩
      · obtain ⟨n, rfl⟩ : ∃ n, L = n + 1 := ⟨L - 1, by have := hB rfl; omega⟩
        clear hB
        go_wp2_with fail
        refine (d_below _ _ _ _ _ (by omega) hc6.out).mono ?_
        rintro e w7 ⟨rfl, hc7, ha7⟩
        have hj := belowD_lt cs (show (0 : Int) < (n : Int) + 1 by omega) s6
        obtain ⟨j, hjj⟩ : ∃ j : Nat, belowD cs ((n : Int) + 1) s6 = (j : Int) := Int.eq_ofNat_of_zero_le hj.1
        first | rw [hjj] at hj ⊢ | (push_cast; rw [hjj] at hj ⊢)
        clear hjj
        have hO7 := Lib.hid (hO6.out.away ha7 hlt)
        have hA7 := Lib.hid (hA6.out.trans ha7)
        have hc7 := Lib.hid hc7
        clear ha7
        go_wp2_with fail
        refine (d_token _ _ _ _ hc7.out).mono ?_
        rintro e w8 ⟨⟨k, x, at_⟩, s8, ⟨hk, hx, hat⟩, rfl, hc8, ha8⟩
        dsimp only at hk hx hat
        subst hat
        have hO8 := hO7.out.away ha8 hlt
        have hA8 := Lib.hid (hA7.out.trans ha8)
        have hc8 := Lib.hid hc8
        clear ha8
        obtain ⟨_, hLc, hcm8, b, rfl, hbb, cur, hcur, hcsz, hcells⟩ := hO8.at_ (by omega)
        have hjn : j < n + 1 := by omega
        have hcurH := Lib.hid hcur
        have hcellsH := Lib.hid hcells
        have hcszH := Lib.hid hcsz
        obtain ⟨v0, y0⟩ := hcur.there (i := j * 3) (by omega)
        obtain ⟨v1, y1⟩ := hcur.there (i := j * 3 + 1) (by omega)
        obtain ⟨v2, y2⟩ := hcur.there (i := j * 3 + 2) (by omega)
        have f0 : w8.frozen? ⟨b, j * 3, none⟩ = _ := hcur.free _
        have f1 : w8.frozen? ⟨b, j * 3 + 1, none⟩ = _ := hcur.free _
        have f2 : w8.frozen? ⟨b, j * 3 + 2, none⟩ = _ := hcur.free _
        clear hcur hcells hcsz hO8
        go_wp2_with fail
        have hB9 : Below w.heap.size w8 (set3 w8 b (j * 3) (.int .i64 k) (.string x) (.int .i64 0)) := below_set3 (Below.refl _ _) hbb _ _ _ _
        have hO9 : OwnT (set3 w8 b (j * 3) (.int .i64 k) (.string x) (.int .i64 0)) w.heap.size (.slice (some ⟨b, 0, none⟩) (n + 1) cap) (l.set j ⟨k, x, 0⟩) := by
          have := OwnT.setAt hbb hcurH.out (l := l) (by omega) hcm8 hcszH.out hcellsH.out (j := j) (by omega) ⟨k, x, 0⟩
          rw [hLL] at this
          exact this
        have hall9 := drawn_set hall.out (t := ⟨k, x, 0⟩) ⟨hk, hx, rfl⟩ j
        exact bodyPost_ret (v := .slice (some ⟨b, 0, none⟩) (n + 1) cap) (by simp [results, Tryd.results98, go_sem]) rfl ⟨_, l.set j ⟨k, x, 0⟩, s8, rfl, (hO9.toks (drawn_ok hall9)).1, (hO9.toks (drawn_ok hall9)).2, hall9, by rw [List.length_set]; omega, hc8.out.keep hB9 hlt, hA8.out.then_below hB9⟩
    · obtain ⟨p, rfl⟩ : ∃ p, q = p + 1 := ⟨q - 1, by omega⟩
      obtain ⟨A, cap, rfl, hcap, hcm, hrow⟩ := hO.out.form
      unfold maxLen at hcm
      obtain ⟨L, hLL⟩ : ∃ L, l.length = L := ⟨_, rfl⟩
      rw [hLL] at hcap hrow hO hl ⊢
      go_upto_if 20 with fail
      go_cut [7] (fun s7 wx => wx = wr ∧ ∃ b : Int, s7 = .int .i64 b)
      case first =>
        rcases Nat.eq_zero_or_pos L with h | h
        · subst h
          clear hrow
          go_wp2_with fail
          go_meet
          exact ⟨rfl, 0, rfl⟩
        · obtain ⟨n, rfl⟩ : ∃ n, L = n + 1 := ⟨L - 1, by omega⟩
          obtain ⟨b, rfl, hbb, cur, hcur, hcsz, hcells⟩ := hrow (by omega)
          obtain ⟨lt, hlt2⟩ : ∃ lt, l[n]? = some lt := ⟨l[n]'(by omega), List.getElem?_eq_getElem _⟩
          have hcl := hcur.get (hcells _ _ (tokCells_get hlt2).1)
          obtain ⟨lk, hlk⟩ : ∃ lk, lt.kind = lk := ⟨_, rfl⟩
          rw [hlk] at hcl
          clear hrow hcur hcsz hcells hlt2 hlk
          go_wp2_with fail
          go_meet
          exact ⟨rfl, _, rfl⟩
      case rest =>
      obtain ⟨rfl, last, rfl⟩ := hcut
      have hO := hO.out
      generalize Value.slice A L cap = v at hO ⊢
      have hO := Lib.hid hO
      clear hrow hcap hcm
      go_wp2_with fail
      refine (d_token _ _ _ _ hc3.out).mono ?_
      rintro e w4 ⟨⟨k, x, at_⟩, s4, ⟨hk, hx, hat⟩, rfl, hc4, ha4⟩
      dsimp only at hk hx hat
      subst hat
      have hle : w.heap.size ≤ w4.heap.size := Nat.le_trans hA3.out.size ha4.size
      have hd4 := Lib.hid (show drawnTok ⟨k, x, 0⟩ from ⟨hk, hx, rfl⟩)
      have hD4 : Hid (AtD w g cs w4.heap.size l ⟨k, x, 0⟩ v (w4.alloc (.cells #[.int .i64 k, .string x, .int .i64 0] 36))) := AtD.made hc4 (hO.out.away ha4 hlt) (hA3.out.trans ha4) ⟨k, x, 0⟩
      have hN4 : Hid (AtD w g cs w4.heap.size l ⟨1, ⟨#[10]⟩, 0⟩ v (w4.alloc (.cells #[.int .i64 1, .string ⟨#[10]⟩, .int .i64 0] 36))) := AtD.made hc4 (hO.out.away ha4 hlt) (hA3.out.trans ha4) ⟨1, ⟨#[10]⟩, 0⟩
      clear ha4
      go_upto_block 2 with fail
      go_cut [5] (fun s5 wx => MidD w g cs w4.heap.size (L + 1) s5 wx)
      case first =>
        go_upto_region 9 with fail
        go_cut [30] (fun s30 wx => wx = (w4.alloc (.cells #[.int .i64 k, .string x, .int .i64 0] 36)) ∧ ∃ B : Bool, s30 = .bool B)
        case first =>
          cases hE : endsB last
          · by_cases k5 : k = 5
            · subst k5
              go_wp2_with (go_at_call 101; refine (s_ends _ _).mono ?_; rintro e wE ⟨rfl, rfl⟩; rw [hE])
              go_meet
              exact ⟨rfl, _, rfl⟩
            by_cases k58 : k = 58
            · subst k58
              go_wp2_with (go_at_call 101; refine (s_ends _ _).mono ?_; rintro e wE ⟨rfl, rfl⟩; rw [hE])
              go_meet
              exact ⟨rfl, _, rfl⟩
            by_cases k41 : k = 41
            · subst k41
              go_wp2_with (go_at_call 101; refine (s_ends _ _).mono ?_; rintro e wE ⟨rfl, rfl⟩; rw [hE])
              go_meet
              exact ⟨rfl, _, rfl⟩
            have e5 : (k == 5) = false := by simpa using k5
            have e58 : (k == 58) = false := by simpa using k58
            have e41 : (k == 41) = false := by simpa using k41
            clear k5 k58 k41
            go_wp2_with fail
            go_meet
            exact ⟨rfl, _, rfl⟩
          · by_cases k5 : k = 5
            · subst k5
              go_wp2_with (go_at_call 101; refine (s_ends _ _).mono ?_; rintro e wE ⟨rfl, rfl⟩; rw [hE])
              go_meet
              exact ⟨rfl, _, rfl⟩
            by_cases k58 : k = 58
            · subst k58
              go_wp2_with (go_at_call 101; refine (s_ends _ _).mono ?_; rintro e wE ⟨rfl, rfl⟩; rw [hE])
              go_meet
              exact ⟨rfl, _, rfl⟩
            by_cases k41 : k = 41
            · subst k41
              go_wp2_with (go_at_call 101; refine (s_ends _ _).mono ?_; rintro e wE ⟨rfl, rfl⟩; rw [hE])
              go_meet
              exact ⟨rfl, _, rfl⟩
            have e5 : (k == 5) = false := by simpa using k5
            have e58 : (k == 58) = false := by simpa using k58
            have e41 : (k == 41) = false := by simpa using k41
            clear k5 k58 k41
            go_wp2_with fail
            go_meet
            exact ⟨rfl, _, rfl⟩
        case rest =>
        obtain ⟨rfl, B, rfl⟩ := hcut
        cases B
        · go_upto_region 11 with fail
          go_cut [54] (fun s54 wx => AtD w g cs w4.heap.size l ⟨k, x, 0⟩ v wx ∧ ∃ B : Bool, s54 = .bool B)
          case first =>
            obtain ⟨s', hcu⟩ := hD4.out.cur
            have hcu := Lib.hid hcu
            by_cases k6 : k = 6
            · subst k6
              go_wp2_with fail
              refine (d_once _ _ _ _ _ (by omega) hcu.out).mono ?_
              rintro e w5 ⟨rfl, hc5, ha5⟩
              obtain ⟨B, hB⟩ : ∃ B, (belowD cs 4 s' == 0) = B := ⟨_, rfl⟩
              rw [hB]
              clear hB
              have hD5 : Hid (AtD w g cs w4.heap.size l ⟨6, x, 0⟩ v w5) := hD4.out.away hc5 ha5 hle hlt
              clear hc5 ha5
              go_wp2_with fail
              go_meet
              exact ⟨hD5.out, _, rfl⟩
            · have e6 : (k == 6) = false := by simpa using k6
              clear k6
              go_wp2_with fail
              go_meet
              exact ⟨hD4.out, _, rfl⟩
          case rest =>
          obtain ⟨hD5, B, rfl⟩ := hcut
          have hD5 := Lib.hid hD5
          clear hD4
          cases B
          · go_upto_region 15 with fail
            go_cut [68] (fun s68 wx => AtD w g cs w4.heap.size l ⟨k, x, 0⟩ v wx ∧ ∃ B : Bool, s68 = .bool B)
            case first =>
              obtain ⟨s', hcu⟩ := hD5.out.cur
              have hcu := Lib.hid hcu
              go_wp2_with fail
              refine (d_once _ _ _ _ _ (by omega) hcu.out).mono ?_
              rintro e w5 ⟨rfl, hc5, ha5⟩
              obtain ⟨B, hB⟩ : ∃ B, (belowD cs 20 s' == 0) = B := ⟨_, rfl⟩
              rw [hB]
              clear hB
              have hD6 : Hid (AtD w g cs w4.heap.size l ⟨k, x, 0⟩ v w5) := hD5.out.away hc5 ha5 hle hlt
              clear hc5 ha5
              go_wp2_with fail
              go_meet
              exact ⟨hD6.out, _, rfl⟩
            case rest =>
            rename_i wd
            clear hD5
            obtain ⟨hD5, B, rfl⟩ := hcut
            have hD5 := Lib.hid hD5
            cases B
            · go_wp2_with fail
              go_meet
              exact hD5.out.mid (n := L + 1) (by omega) hall.out hd4.out
            · obtain ⟨s', hcu⟩ := hD5.out.cur
              have hgl := hcu.lt
              have hcu := Lib.hid (hcu.alloc (.cells (noteS.map fun x => Value.string x).toArray 9))
              have hS := Lib.hid (StrsAt.made wc noteS 9)
              have hD6 := Lib.hid (hD5.out.alloc (.cells (noteS.map fun x => Value.string x).toArray 9))
              have hsD := hD5.out.has.lt
              go_wp2_with fail
              refine (d_pick g cs _ _ _ _ noteS _ rfl (by decide) (by decide) (by omega) hS.out hcu.out).mono ?_
              rintro e w6 ⟨z, hz, rfl, hc6, ha6⟩
              have hz := Lib.hid (noteS_size z (List.mem_of_getElem? hz))
              have hD6 : Hid (AtD w g cs w4.heap.size l ⟨k, x, 0⟩ v w6) := hD6.out.away hc6 ha6 hle hlt
              have hs6 := hD6.out.has.lt
              clear hc6 ha6 hgl
              go_upto_region 17 with (at_builtin; refine app_tok_at (by rfl) _ _ (by rfl) w.heap.size _ l (by rfl) (hD6.out.alloc _).own _ 1 ⟨2, z, 0⟩ (by rfl) (one_newt_at _ _ (by simp) ⟨2, z, 0⟩ _) (by omega) (by simp; omega) ?_; intro v1 w7 hown1 hb1 hg1 hat1; have hown1 := Lib.hid hown1; have hb1 := Lib.hid hb1; have hg1 := Lib.hid hg1; have hat1 := Lib.hid hat1)
              have hD7 : Hid (AtD w g cs w4.heap.size (l ++ [⟨2, z, 0⟩]) ⟨k, x, 0⟩ v1 w7) := (hD6.out.alloc _).app hlt hown1.out hb1.out hg1.out hat1.out
              have hsc : w4.heap.size < w7.heap.size := hD7.out.has.lt
              have c0 : w7.cell? ⟨w4.heap.size, 0, none⟩ = _ := hD7.out.has.get (i := 0) rfl
              have c1 : w7.cell? ⟨w4.heap.size, 1, none⟩ = _ := hD7.out.has.get (i := 1) rfl
              have c2 : w7.cell? ⟨w4.heap.size, 2, none⟩ = _ := hD7.out.has.get (i := 2) rfl
              have c3 : w7.frozen? ⟨w4.heap.size, 0, none⟩ = _ := hD7.out.has.free 0
              have c4 : w7.frozen? ⟨w4.heap.size, 1, none⟩ = _ := hD7.out.has.free 1
              have c5 : w7.frozen? ⟨w4.heap.size, 2, none⟩ = _ := hD7.out.has.free 2
              go_wp2_with fail
              go_meet
              exact (hD7.out.setTok hle hlt ⟨1, ⟨#[10]⟩, 0⟩).mid (n := L + 1) (by simp; omega) (drawn_all hall.out ⟨by dsimp only; omega, hz.out, rfl⟩) ⟨by dsimp only; omega, by decide, rfl⟩
          · have hsD := hD5.out.has.lt
            have hD6 := Lib.hid (hD5.out.setKind hle hlt 7)
            have hsq : w4.heap.size < wc.heap.size := hD5.out.has.lt
            have q0 : wc.cell? ⟨w4.heap.size, 0, none⟩ = _ := hD5.out.has.get (i := 0) rfl
            have q1 : wc.cell? ⟨w4.heap.size, 1, none⟩ = _ := hD5.out.has.get (i := 1) rfl
            have q2 : wc.cell? ⟨w4.heap.size, 2, none⟩ = _ := hD5.out.has.get (i := 2) rfl
            have q3 : wc.frozen? ⟨w4.heap.size, 0, none⟩ = _ := hD5.out.has.free 0
            have q4 : wc.frozen? ⟨w4.heap.size, 1, none⟩ = _ := hD5.out.has.free 1
            have q5 : wc.frozen? ⟨w4.heap.size, 2, none⟩ = _ := hD5.out.has.free 2
            go_upto_region 14 with (at_builtin; refine app_tok_at (by rfl) _ _ (by rfl) w.heap.size _ l (by rfl) (hD6.out.alloc _).own _ 1 ⟨7, x, 0⟩ (by rfl) (one_newt_at _ _ (by simp) ⟨7, x, 0⟩ _) (by omega) (by simp; omega) ?_; intro v1 w7 hown1 hb1 hg1 hat1; have hown1 := Lib.hid hown1; have hb1 := Lib.hid hb1; have hg1 := Lib.hid hg1; have hat1 := Lib.hid hat1)
            have hD7 : Hid (AtD w g cs w4.heap.size (l ++ [⟨7, x, 0⟩]) ⟨7, x, 0⟩ v1 w7) := (hD6.out.alloc _).app hlt hown1.out hb1.out hg1.out hat1.out
            have hsc : w4.heap.size < w7.heap.size := hD7.out.has.lt
            have c0 : w7.cell? ⟨w4.heap.size, 0, none⟩ = _ := hD7.out.has.get (i := 0) rfl
            have c1 : w7.cell? ⟨w4.heap.size, 1, none⟩ = _ := hD7.out.has.get (i := 1) rfl
            have c2 : w7.cell? ⟨w4.heap.size, 2, none⟩ = _ := hD7.out.has.get (i := 2) rfl
            have c3 : w7.frozen? ⟨w4.heap.size, 0, none⟩ = _ := hD7.out.has.free 0
            have c4 : w7.frozen? ⟨w4.heap.size, 1, none⟩ = _ := hD7.out.has.free 1
            have c5 : w7.frozen? ⟨w4.heap.size, 2, none⟩ = _ := hD7.out.has.free 2
            go_wp2_with fail
            go_meet
            exact (hD7.out.setTok hle hlt ⟨32, ⟨#[40]⟩, 0⟩).mid (n := L + 1) (by simp; omega) (drawn_all hall.out ⟨by dsimp only; omega, hd4.out.2.1, rfl⟩) ⟨by dsimp only; omega, by decide, rfl⟩
        · go_wp2_with fail
          go_meet
          exact hN4.out.mid (n := L + 1) (by omega) hall.out ⟨by dsimp only; omega, by decide, rfl⟩
      case rest =>
      clear hD4 hN4 hall hO
      obtain ⟨l5, ⟨k5, x5, a5⟩, s5, hl5, hall5, hd5, hO5, hap5, hX5, hc5, hA5⟩ := hcut
      have ha5 : a5 = 0 := hd5.out.2.2
      subst ha5
      have hs5 : w4.heap.size < wc.heap.size := hX5.out.lt
      have hle5 : w.heap.size ≤ wc.heap.size := hA5.out.size
      have c0 : wc.cell? ⟨w4.heap.size, 0, none⟩ = _ := hX5.out.get (i := 0) rfl
      have c1 : wc.cell? ⟨w4.heap.size, 1, none⟩ = _ := hX5.out.get (i := 1) rfl
      have c2 : wc.cell? ⟨w4.heap.size, 2, none⟩ = _ := hX5.out.get (i := 2) rfl
      go_wp2_with (at_builtin; refine app_tok_at (by rfl) _ _ (by rfl) w.heap.size _ l5 (by rfl) (hO5.out.alloc _) _ 1 ⟨k5, x5, 0⟩ (by rfl) (one_newt_at _ _ (by simp) ⟨k5, x5, 0⟩ _) (by omega) (by simp; omega) ?_; intro v' w' hown' hb' hg' hat'; have hown' := Lib.hid hown'; have hb' := Lib.hid hb')
      have hbF : Hid (Below w.heap.size wc w') := ((Below.refl _ _).alloc hle5 _).trans hb'.out
      go_roundw
      case rel => exact ⟨_, p, _, by simp; omega, rfl, drawn_all hall5.out hd5.out, hown', hc5.out.keep hbF.out hlt, hA5.out.then_below hbF.out⟩
      case measure => simp [intOf]
end Go.Proofs.YtdajhcammnlonaaDoor
/-! DrawSpell -/
namespace Go.Proofs.YtdajhcammnlonaaDoor
open Go.RowKit
set_option linter.unusedVariables false
theorem drawn_sum : ∀ {l : List PTok}, (∀ t ∈ l, drawnTok t) → tokSum l ≤ 16 * l.length
  | [], _ => by simp [tokSum]
  | t :: l, h => by
    have h1 := (h t (List.mem_cons_self ..)).2.1
    have h2 := drawn_sum (l := l) (fun u hu => h u (List.mem_cons_of_mem _ hu))
    simp only [tokSum, List.length_cons]
    omega
theorem drawn_bulk {l : List PTok} (h : ∀ t ∈ l, drawnTok t) : toksBulk l ≤ 17 * l.length := by
  have := drawn_sum h
  unfold toksBulk
  omega
def RetToksF (w : World) (e : Ending) (w' : World) : Prop := ∃ v l, e = .returned v ∧ ToksIn w' w'.heap.size v l ∧ (∀ t ∈ l, drawnTok t) ∧ l.length ≤ 28 ∧ Below w.heap.size w w'
set_option maxHeartbeats 1000000 in
theorem d_drawSpell (v : Value) (cs : List UInt8) (w : World) (hl : cs.length ≤ 1048576) (h : BytesIn w w.heap.size v cs) : Calls Tryd.prog 43 #[v] w (RetToksF w) := by
  have hB := Lib.hid h
  obtain ⟨A, c, rfl, r⟩ := h
  clear r
  go_enter Tryd.func43, Tryd.ntmps43
  go_wp2_with fail
  refine (d_new _ cs _ hl hB.out).mono ?_
  rintro e w1 ⟨g, s, rfl, hg, hc1, hb1⟩
  have hc1 := Lib.hid hc1
  have hb1 := Lib.hid hb1
  go_wp2_with fail
  refine (d_tokens g cs s 14 w1 (by omega) hc1.out).mono ?_
  rintro e w2 ⟨v2, l2, s2, rfl, h2, f2, d2, n2, hc2, ha2⟩
  have hb2 := Lib.hid (ha2.below_then hb1.out hg hb1.out.size)
  go_wp2_with fail
  exact bodyPost_ret (v := v2) (by simp [results, Tryd.results43, go_sem]) rfl ⟨_, l2, rfl, h2, d2, by omega, hb2.out⟩
end Go.Proofs.YtdajhcammnlonaaDoor
/-! LawsRelex -/
namespace Go.Proofs.YtdajhcammnlonaaDoor
open Go.RowKit
set_option linter.unusedVariables false
theorem spellGo_len : ∀ (l : List PTok) (p : Option PTok), (spellGo p l).length ≤ l.length + tokSum l
  | [], p => by cases p <;> simp [spellGo, tokSum]
  | t :: r, none => by
    have h := spellGo_len r (some t)
    have e : t.text.data.toList.length = t.text.size := (Lib.size_eq _).symm
    simp only [spellGo, List.length_append, List.length_cons, tokSum]
    omega
  | t :: r, some a => by
    have h := spellGo_len r (some t)
    have e : t.text.data.toList.length = t.text.size := (Lib.size_eq _).symm
    have e2 : (if gapB a t = true then ([32] : List UInt8) else []).length ≤ 1 := by split <;> simp
    simp only [spellGo, List.length_append, List.length_cons, tokSum]
    omega
theorem spellL_len (l : List PTok) : (spellL l).size ≤ toksBulk l := by
  have h := spellGo_len l none
  have e : (spellL l).size = (spellGo none l).length := by rw [Lib.size_eq, spellL, bs_data]
  unfold toksBulk
  omega
theorem tokSum_face : ∀ {l m : List PTok}, m.map faceOf = l.map faceOf → tokSum m = tokSum l
  | [], [], _ => rfl
  | [], _ :: _, h => by simp at h
  | _ :: _, [], h => by simp at h
  | t :: l, u :: m, h => by
    simp only [List.map_cons, List.cons.injEq, faceOf, Prod.mk.injEq] at h
    simp only [tokSum, h.1.2, tokSum_face h.2]
theorem toksBulk_face {l m : List PTok} (h : m.map faceOf = l.map faceOf) : toksBulk m = toksBulk l := by
  have hl : m.length = l.length := by simpa using congrArg List.length h
  unfold toksBulk
  rw [tokSum_face h, hl]
open Classical in
theorem allB_face {l m : List PTok} (h : m.map faceOf = l.map faceOf) : allB tokEq m l = true := by
  unfold allB
  refine decide_eq_true ⟨by simpa using congrArg List.length h, fun j x y hx hy => ?_⟩
  have e : (m.map faceOf)[j]? = (l.map faceOf)[j]? := by rw [h]
  rw [List.getElem?_map, List.getElem?_map, hx, hy] at e
  simp only [Option.map_some, Option.some.injEq, faceOf, Prod.mk.injEq] at e
  unfold tokEq
  simp [e.1, e.2]
set_option maxRecDepth 100000 in
set_option maxHeartbeats 4000000 in
theorem l_FnRelex (v0 : Value) (a0 : List UInt8) (w : World) (t0 : TabAt w 0 kwL) (t1 : TabAt w 1 signL) (t2 : TabAt w 2 biL) (h0 : BytesIn w w.heap.size v0 a0) :
    Calls Tryd.prog 7 #[v0] w fun e w' => e = .returned (.bool true) ∧ Below w.heap.size w w' := by
  have t0 := Lib.hid t0
  have t1 := Lib.hid t1
  have t2 := Lib.hid t2
  have hB := Lib.hid h0
  obtain ⟨A, c, rfl, r⟩ := h0
  clear r
  by_cases hbig : 1048576 < a0.length
  · have hd := Lib.hid (show decide (1048576 < a0.length) = true by simpa using hbig)
    clear hbig
    go_enter Tryd.func7, Tryd.ntmps7
    go_wp2_with fail
    refine (l_big _ a0 _ hB.out).mono ?_
    rintro e w' ⟨rfl, rfl⟩
    rw [hd.out]
    go_wp2_with fail
    go_ret
    exact ⟨rfl, Below.refl _ _⟩
  · have hd := Lib.hid (show decide (1048576 < a0.length) = false by simpa using hbig)
    have hl := Lib.hid (show a0.length ≤ 1048576 by omega)
    clear hbig
    go_enter Tryd.func7, Tryd.ntmps7
    go_wp2_with fail
    refine (l_big _ a0 _ hB.out).mono ?_
    rintro e w' ⟨rfl, rfl⟩
    rw [hd.out]
    go_wp2_with fail
    refine (d_drawSpell _ a0 _ hl.out hB.out).mono ?_
    rintro e w1 ⟨v1, l, rfl, z1, hdr, hln, hb1⟩
    have hbulk := Lib.hid (show toksBulk l ≤ 1048576 by have := drawn_bulk hdr; omega)
    have hok := Lib.hid (drawn_ok hdr)
    have z1 := Lib.hid z1
    have b1 := Lib.hid hb1
    have y0 := Lib.hid (t0.out.later b1.out)
    have y1 := Lib.hid (t1.out.later b1.out)
    have y2 := Lib.hid (t2.out.later b1.out)
    clear hdr hln hb1
    go_wp2_with fail
    refine (i_spell _ l _ hbulk.out z1.out y1.out).mono ?_
    rintro e w2 ⟨rfl, hb2⟩
    have z2 := Lib.hid ((z1.out.keep hb2 (Nat.le_refl _)).more hb2.size)
    have b2 := Lib.hid (b1.out.trans (hb2.mono b1.out.size))
    have y0 := Lib.hid (t0.out.later b2.out)
    have y1 := Lib.hid (t1.out.later b2.out)
    have y2 := Lib.hid (t2.out.later b2.out)
    clear hb2
    obtain ⟨X, hX⟩ : ∃ X, spellL l = X := ⟨_, rfl⟩
    have hXs : X.size ≤ 1048576 := by rw [← hX]; exact Nat.le_trans (spellL_len l) hbulk.out
    rw [hX]
    have hXH := Lib.hid hX
    have hXs := Lib.hid hXs
    clear hX
    obtain ⟨R, hR⟩ : ∃ R, lexAll X = R := ⟨_, rfl⟩
    obtain ⟨L, F1, F2⟩ := R
    have hRH := Lib.hid hR
    clear hR
    go_wp2_with fail
    refine (i_lex X _ hXs.out y0.out y1.out y2.out).mono ?_
    rintro e w3 ⟨v3, rfl, ho3, hk3, hb3⟩
    rw [hRH.out] at ho3 hk3 ⊢
    have okL : Hid (∀ t ∈ L, okTok t) := hk3
    have f3 := Lib.hid (Has.made w3 50 #[.int .i64 F1, .int .i64 F2])
    have hB3 : Below w3.heap.size w3 (w3.alloc (.cells #[.int .i64 F1, .int .i64 F2] 50)) := (Below.refl w3.heap.size w3).alloc (Nat.le_refl _) _
    have x3 := Lib.hid (((show OwnT w3 w2.heap.size v3 L from ho3).toks okL.out).1.keep hB3 (Nat.le_refl _) |>.more hB3.size)
    have z3 := Lib.hid ((((z2.out.keep hb3 (Nat.le_refl _)).more hb3.size).keep hB3 (Nat.le_refl _)).more hB3.size)
    have b3 := Lib.hid ((b2.out.trans (hb3.mono b2.out.size)).trans (hB3.mono (Nat.le_trans b2.out.size hb3.size)))
    clear ho3 hk3 hb3 hB3
    obtain ⟨W3, hW3⟩ : ∃ W3, w3.alloc (.cells #[.int .i64 F1, .int .i64 F2] 50) = W3 := ⟨_, rfl⟩
    rw [hW3] at f3 x3 z3 b3
    have hW3H := Lib.hid hW3
    clear hW3
    go_wp2_with fail
    rw [hW3H.out]
    refine (s_tokensOk v1 l _ hbulk.out z3.out).mono ?_
    rintro e w4 ⟨rfl, hb4⟩
    have x4 := Lib.hid ((x3.out.keep hb4 (Nat.le_refl _)).more hb4.size)
    have z4 := Lib.hid ((z3.out.keep hb4 (Nat.le_refl _)).more hb4.size)
    have b4 := Lib.hid (b3.out.trans (hb4.mono b3.out.size))
    have f4 := Lib.hid (f3.out.below hb4 f3.out.lt)
    clear hb4
    cases hT : tokensOkB l
    · clear hT
      go_wp2_with fail
      refine (s_spell v1 l _ hbulk.out z4.out).mono ?_
      rintro e w5 ⟨rfl, hb5⟩
      have b5 := Lib.hid (b4.out.trans (hb5.mono b4.out.size))
      clear hb5
      rw [hXH.out]
      go_wp2_with fail
      go_ret
      exact ⟨rfl, b5.out⟩
    · by_cases hs : 3000 < X.size
      · clear hT
        go_wp2_with fail
        refine (s_spell v1 l _ hbulk.out z4.out).mono ?_
        rintro e w5 ⟨rfl, hb5⟩
        have b5 := Lib.hid (b4.out.trans (hb5.mono b4.out.size))
        clear hb5
        rw [hXH.out]
        go_wp2_with fail
        go_ret
        exact ⟨rfl, b5.out⟩
      · obtain ⟨m, hm, hf⟩ := relex hT
        rw [hXH.out] at hm
        have hR := hRH.out
        rw [lexAll_small hs, hm] at hR
        obtain ⟨rfl, rfl, rfl⟩ : m = L ∧ (0 : Int) = F1 ∧ (0 : Int) = F2 := by simpa [lexR] using hR
        have hall := Lib.hid (allB_face hf)
        have hTm := Lib.hid ((tokensOk_face hf).trans hT)
        have hbm := Lib.hid (show toksBulk m ≤ 1048576 by rw [toksBulk_face hf]; exact hbulk.out)
        clear hT hm hR hf
        have n0 := f4.out.get (i := 0) rfl
        have n1 := f4.out.get (i := 1) rfl
        go_wp2_with fail
        refine (s_sameTok v3 v1 m l _ x4.out z4.out).mono ?_
        rintro e w5 ⟨rfl, hb5⟩
        rw [hall.out]
        have x5 := Lib.hid ((x4.out.keep hb5 (Nat.le_refl _)).more hb5.size)
        have z5 := Lib.hid ((z4.out.keep hb5 (Nat.le_refl _)).more hb5.size)
        have b5 := Lib.hid (b4.out.trans (hb5.mono b4.out.size))
        clear hb5 n0 n1
        go_wp2_with fail
        refine (i_sameTok v3 v1 m l _ x5.out z5.out).mono ?_
        rintro e w6 ⟨rfl, hb6⟩
        rw [hall.out]
        have x6 := Lib.hid ((x5.out.keep hb6 (Nat.le_refl _)).more hb6.size)
        have b6 := Lib.hid (b5.out.trans (hb6.mono b5.out.size))
        clear hb6
        have y0 := Lib.hid (t0.out.later b6.out)
        have y1 := Lib.hid (t1.out.later b6.out)
        have y2 := Lib.hid (t2.out.later b6.out)
        go_wp2_with fail
        refine (i_tokensOk v3 m _ hbm.out x6.out y0.out y1.out y2.out).mono ?_
        rintro e w7 ⟨rfl, hb7⟩
        rw [hTm.out]
        have b7 := Lib.hid (b6.out.trans (hb7.mono b6.out.size))
        clear hb7
        go_wp2_with fail
        go_ret
        exact ⟨rfl, b7.out⟩
end Go.Proofs.YtdajhcammnlonaaDoor
