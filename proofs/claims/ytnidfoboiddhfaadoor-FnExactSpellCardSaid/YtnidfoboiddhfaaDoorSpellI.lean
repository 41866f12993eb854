/- The text of tokens, in the program: Spell (walk). -/
import Derived.Test.YtnidfoboiddhfaaDoorSpell
namespace Go.Proofs.YtnidfoboiddhfaaDoor
open Go.RowKit
set_option linter.unusedVariables false
set_option maxRecDepth 100000 in
set_option maxHeartbeats 2000000 in
theorem i_spell (v : Value) (l : List PTok) (w : World) (hl : toksBulk l ≤ 1048576) (h : ToksIn w w.heap.size v l) (t1 : TabAt w 0 signL) : Calls Tryd.prog 27 #[v] w fun e w' => e = .returned (.string (spellL l)) ∧ Below w.heap.size w w' := by
  obtain ⟨A, c, rfl, hlc, hcm, hcell, hsz⟩ := h
  unfold maxLen at hcm
  have tH := Lib.hid t1
  obtain ⟨n, hn⟩ : ∃ n, l.length = n := ⟨_, rfl⟩
  have hbk : n + tokSum l ≤ 1048576 := by unfold toksBulk at hl; omega
  have hts := Lib.hid (show ∀ t ∈ l, t.text.size ≤ 1048576 from fun t ht => by have := tok_mem ht; omega)
  rw [hn] at hlc hcell ⊢
  have hnH := Lib.hid hn
  clear hn hl hsz t1
  go_enter Tryd.func27, Tryd.ntmps27
  go_wp2_with fail
  go_loopw [3, 9] (fun x i wr => ∃ (j : Nat) (acc : List UInt8), j ≤ n ∧ Hid (Spelt l j acc) ∧ acc.length ≤ 1048576 ∧ OwnB wr w.heap.size x acc ∧ i = .int .i64 j ∧ Below w.heap.size w wr) (fun _ i _ => (n - (intOf i).toNat))
  case atStart => exact ⟨0, [], by omega, ⟨rfl, by simp⟩, by simp, OwnB.start w (Nat.le_refl _), by go_num, (Below.refl _ _).alloc (Nat.le_refl _) _⟩
  case round =>
    obtain ⟨j, acc, hj, hd, hacc, hown0, rfl, hb⟩ := hrel
    have hown := Lib.hid hown0
    clear hown0
    by_cases hlt : j < n
    · obtain ⟨t, ht⟩ : ∃ t, l[j]? = some t := ⟨l[j]'(by rw [hnH.out]; exact hlt), List.getElem?_eq_getElem _⟩
      have htz := hts.out t (List.mem_of_getElem? ht)
      have hroom : ∀ a : List UInt8, Spelt l (j + 1) a → a.length ≤ 1048576 := fun a ha => by
        have h1 := ha.2
        have h2 := tok_take_le l (j + 1)
        omega
      have hroomH := Lib.hid hroom
      obtain ⟨b, off, hA, hl2, hc⟩ := hcell (by omega)
      subst hA
      obtain ⟨e0, e1, e2⟩ := hc j t ht
      have hk : ∀ o, wr.cell? ⟨b, o, none⟩ = w.cell? ⟨b, o, none⟩ := fun o => hb.cell (p := ⟨b, o, none⟩) hl2
      rw [← hk] at e0 e1 e2
      by_cases hj0 : j = 0
      · subst hj0
        have hst := Lib.hid (spelt_first hd.out ht)
        obtain ⟨kt, tt, pt⟩ := t
        have hkH := Lib.hid hk
        have htH := Lib.hid ht
        have hl2H := Lib.hid hl2
        have hlen := Lib.hid (show acc.length + tt.size ≤ 1073741824 by have h0 : tt.size ≤ 1048576 := htz; omega)
        have hbH := Lib.hid hb
        clear hk hc hcell ht hl2 hroom hb
        simp only [Nat.zero_mul, Nat.add_zero] at e0 e1 e2
        go_wp2_with fail
        go_quiet (fail)
        go_wp2_with (at_builtin; refine app_str (by rfl) _ _ (by rfl) w.heap.size _ acc (by rfl) ((hown.out.alloc _).drewN _) tt (by rfl) hlen.out (by have := hbH.out.size; show _ ≤ (World.alloc _ _).heap.size; simp; omega) ?_; intro v' w' hown' hb'; have hown3 := Lib.hid hown'; have hb4 := Lib.hid hb'; clear hown' hb')
        go_roundw
        case rel => exact ⟨1, _, by omega, hst, hroomH.out _ hst.out, hown3.out, by go_num, (below_drewN (hbH.out.alloc hbH.out.size _) _).trans hb4.out⟩
        case measure => simp [intOf]; omega
      · have hjp : 0 < j := by omega
        obtain ⟨p, hp⟩ : ∃ p, l[j - 1]? = some p := ⟨l[j - 1]'(by rw [hnH.out]; omega), List.getElem?_eq_getElem _⟩
        have hpz := hts.out p (List.mem_of_getElem? hp)
        have hf := hc (j - 1) p hp
        have hl3 : b < wr.heap.size := Nat.lt_of_lt_of_le hl2 hb.size
        obtain ⟨f0, f1, f2⟩ := hf
        rw [← hk] at f0 f1 f2
        have h9 := Lib.hid (Has.made wr 36 #[.int .i64 t.kind, .string t.text, .int .i64 t.at_])
        have hAl := Lib.hid ((Below.refl wr.heap.size wr).alloc (Nat.le_refl _) (.cells #[.int .i64 t.kind, .string t.text, .int .i64 t.at_] 36))
        have hl3H := Lib.hid hl3
        have hjd : decide (0 < j) = true := decide_eq_true hjp
        have gw : IntKind.i64.wrap ((j : Int) - 1) = (j : Int) - 1 := IntWalk.i64_in _ (by omega)
        have gj0 : 0 ≤ (j : Int) - 1 := by omega
        have gjl : (j : Int) - 1 < (n : Int) := by omega
        have gjt : ((j : Int) - 1).toNat = j - 1 := by omega
        have gj1 : (1 : Int) ≤ (j : Int) := by omega
        have gj2 : (j : Int) < (n : Int) + 1 := by omega
        have gj3 : 1 ≤ j := by omega
        have gj4 : j < n + 1 := by omega
        have gj5 : (0 : Int) ≤ (j : Int) := by omega
        have gj6 : (j : Int) < (n : Int) := by omega
        have hbH := Lib.hid hb
        have hacH := Lib.hid hacc
        cases hG : gapB p t
        all_goals
          have hGH := Lib.hid hG
          have hsg := fun h => spelt_gap' hd.out hjp hp ht h
          have hsb := fun h => spelt_bare' hd.out hjp hp ht h
          have hsgH := Lib.hid hsg
          have hsbH := Lib.hid hsb
          have htH := Lib.hid ht
          have hpH := Lib.hid hp
          obtain ⟨kp, tp, pp⟩ := p
          obtain ⟨kt, tt, pt⟩ := t
          have htz : tt.size ≤ 1048576 := htz
          have hpz : tp.size ≤ 1048576 := hpz
          have hlen := Lib.hid (show acc.length + 1 + tt.size ≤ 1073741824 by omega)
          have hlen1 := Lib.hid (show acc.length + 1 ≤ 1073741824 by omega)
          have hlen0 := Lib.hid (show acc.length + tt.size ≤ 1073741824 by omega)
          have hcp : Hid (wr.cell? ⟨b, off + (j - 1) * 3, none⟩ = some (.int .i64 kp) ∧ wr.cell? ⟨b, off + (j - 1) * 3 + 1, none⟩ = some (.string tp) ∧ wr.cell? ⟨b, off + (j - 1) * 3 + 2, none⟩ = some (.int .i64 pp)) := ⟨f0, f1, f2⟩
          clear hk hc hcell ht hp hl2 hroom hG hsg hsb hb
          go_wp2_with fail
          obtain ⟨W, hW⟩ : ∃ W, wr.alloc (.cells #[.int .i64 kt, .string tt, .int .i64 pt] 36) = W := ⟨_, rfl⟩
          have h9 : Has W wr.heap.size 36 #[.int .i64 kt, .string tt, .int .i64 pt] := by rw [← hW]; exact h9.out
          have hAl : Below wr.heap.size wr W := by rw [← hW]; exact hAl.out
          have hS : ∀ W', Below W.drew.heap.size W.drew W' → W'.cell? ⟨b, off + (j - 1) * 3, none⟩ = some (.int .i64 kp) ∧ W'.cell? ⟨b, off + (j - 1) * 3 + 1, none⟩ = some (.string tp) ∧ W'.cell? ⟨b, off + (j - 1) * 3 + 2, none⟩ = some (.int .i64 pp) ∧ W'.cell? ⟨wr.heap.size, 0, none⟩ = some (.int .i64 kt) ∧ W'.cell? ⟨wr.heap.size, 1, none⟩ = some (.string tt) ∧ W'.cell? ⟨wr.heap.size, 2, none⟩ = some (.int .i64 pt) := fun W' hw => by
            have hA2 : Below wr.heap.size wr W' := hAl.trans ((show Below W.heap.size W W' from ⟨hw.os, hw.tape, hw.output, hw.size, hw.block⟩).mono hAl.size)
            have hh : Has W' wr.heap.size 36 #[.int .i64 kt, .string tt, .int .i64 pt] := (show Has W.drew _ _ _ from h9).below hw h9.lt
            obtain ⟨q0, q1, q2⟩ := hcp.out
            exact ⟨(hA2.cell (p := ⟨b, _, none⟩) hl3H.out).trans q0, (hA2.cell (p := ⟨b, _, none⟩) hl3H.out).trans q1, (hA2.cell (p := ⟨b, _, none⟩) hl3H.out).trans q2, hh.get rfl, hh.get rfl, hh.get rfl⟩
          have hown2 := Lib.hid ((hown.out.below hAl (Nat.le_refl _)).drewN 1)
          have hwW : Below w.heap.size w W := hbH.out.trans (hAl.mono hbH.out.size)
          have xt : Hid (TabAt W.drew 0 signL) := (tH.out.later hwW).drewN 1
          have hbW : Hid (Below w.heap.size w W.drew) := below_drewN hwW 1
          have h9d : Hid (Has W.drew wr.heap.size 36 #[.int .i64 kt, .string tt, .int .i64 pt]) := h9
          have hWs : Hid (wr.heap.size < W.drew.heap.size) := h9.lt
          have hSH := Lib.hid hS
          have bacc : Below W.drew.heap.size W.drew W.drew := Below.refl _ _
          obtain ⟨d0, d1, d2, d3, d4, d5⟩ := hS _ bacc
          rw [hW]
          have hwrH : Hid (w.heap.size ≤ wr.heap.size) := hbH.out.size
          clear hS h9 hAl hwW hW f0 f1 f2 e0 e1 e2
          have d0 : W.cell? ⟨b, off + (j - 1) * 3, none⟩ = some (.int .i64 kp) := d0
          have d1 : W.cell? ⟨b, off + (j - 1) * 3 + 1, none⟩ = some (.string tp) := d1
          have d2 : W.cell? ⟨b, off + (j - 1) * 3 + 2, none⟩ = some (.int .i64 pp) := d2
          have d3 : W.cell? ⟨wr.heap.size, 0, none⟩ = some (.int .i64 kt) := d3
          have d4 : W.cell? ⟨wr.heap.size, 1, none⟩ = some (.string tt) := d4
          have d5 : W.cell? ⟨wr.heap.size, 2, none⟩ = some (.int .i64 pt) := d5
          go_region_held3 (fun W' => W'.cell? ⟨b, off + (j - 1) * 3, none⟩ = some (.int .i64 kp) ∧ W'.cell? ⟨b, off + (j - 1) * 3 + 1, none⟩ = some (.string tp) ∧ W'.cell? ⟨b, off + (j - 1) * 3 + 2, none⟩ = some (.int .i64 pp) ∧ W'.cell? ⟨wr.heap.size, 0, none⟩ = some (.int .i64 kt) ∧ W'.cell? ⟨wr.heap.size, 1, none⟩ = some (.string tt) ∧ W'.cell? ⟨wr.heap.size, 2, none⟩ = some (.int .i64 pt)) (exact hSH.out _ bacc) ((go_at_call 23; refine (i_gap _ _ _ _ _ _ _ hpz htz xt.out).mono ?_; rintro e xb ⟨rfl, bb⟩; rw [hGH.out]; have bacc := Below.trans bacc (bb.mono bacc.size); clear bb))
          have hb2 : Hid (Below w.heap.size w xb) := hbW.out.trans (bacc.mono hbW.out.size)
          have hown3 := Lib.hid (hown2.out.below bacc (Nat.le_refl _))
          have h9x := Lib.hid (h9d.out.below bacc hWs.out)
          have m1 := h9x.out.get (i := 1) rfl
          have hxs : Hid (wr.heap.size < xb.heap.size) := Nat.lt_of_lt_of_le hWs.out bacc.size
          have hws : Hid (w.heap.size ≤ xb.heap.size) := hb2.out.size
          clear d0 d1 d2 d3 d4 d5 gw gj0 gjl gjt gj1 gj2 gj3 gj4 gj5 gj6 bacc
          have hap := Lib.hid (hown.out.apart (g := wr.heap.size) (.inr (Nat.le_refl _)))
          go_wp2_with (first | (at_builtin; refine app_byte (by rfl) _ _ (by rfl) w.heap.size _ acc (by rfl) (hown3.out.alloc _) xb.heap.size 1 32 (by rfl) (by rw [World.cell?_alloc_new]; rfl) hlen1.out (by have := hws.out; simp; omega) ?_; intro v3 w3 hown' hb' hgr; have hm := ((h9x.out.alloc _).grow hgr hap.out).get (i := 1) rfl; have hown4 := Lib.hid hown'; have hb4 := Lib.hid ((hb2.out.alloc hws.out _).trans hb'); clear hown' hb' hgr) | (at_builtin; refine app_str (by rfl) _ _ (by rfl) w.heap.size _ (acc ++ [32]) (by rfl) hown4.out tt (by rfl) (by rw [List.length_append]; exact hlen.out) hb4.out.size ?_; intro v' w' hown' hb'; have hown5 := Lib.hid hown'; have hb5 := Lib.hid (hb4.out.trans hb'); clear hown' hb') | (at_builtin; refine app_str (by rfl) _ _ (by rfl) w.heap.size _ acc (by rfl) hown3.out tt (by rfl) hlen0.out hws.out ?_; intro v' w' hown' hb'; have hown5 := Lib.hid hown'; have hb5 := Lib.hid (hb2.out.trans hb'); clear hown' hb'))
          go_roundw
          case rel =>
            first
              | exact ⟨j + 1, _, by omega, hsgH.out hGH.out, hroomH.out _ (hsgH.out hGH.out), hown5.out, by go_num, hb5.out⟩
              | exact ⟨j + 1, _, by omega, hsbH.out hGH.out, hroomH.out _ (hsbH.out hGH.out), hown5.out, by go_num, hb5.out⟩
          case measure => simp [intOf]; omega
    · obtain rfl : j = n := by omega
      have hfin := Lib.hid (spelt_end (l := l) (acc := acc) (by rw [hnH.out]; exact hd.out))
      have hcv := conv_own hown.out
      clear hcell
      go_wp2_with fail
      go_ret
      exact ⟨ret_str hfin.out.symm, hb⟩
end Go.Proofs.YtnidfoboiddhfaaDoor
