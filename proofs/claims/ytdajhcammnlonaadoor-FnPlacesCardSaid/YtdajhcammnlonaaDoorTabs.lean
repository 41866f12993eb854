/- The tables of words: found in, spelled out of (walks): SpellOf, KeywordOf, IsBuiltin, NameOk, OpSpell. -/
import Derived.Test.YtdajhcammnlonaaDoorLaid
import Derived.Test.YtdajhcammnlonaaDoorScan
import Derived.Test.YtdajhcammnlonaaDoorMem
import Derived.Lib.Hide
namespace Go.Proofs.YtdajhcammnlonaaDoor
open Go.RowKit
set_option linter.unusedVariables false

theorem findFrom_drop {x : List UInt8} {l : List (List UInt8)} {j : Nat} {y : List UInt8} (h : l[j]? = some y) : findFrom x (l.drop j) j = if y = x then (j : Int) else findFrom x (l.drop (j + 1)) (j + 1) := by
  have hj := (List.getElem?_eq_some_iff.1 h).1
  have e : l.drop j = y :: l.drop (j + 1) := by rw [List.drop_eq_getElem_cons hj, (List.getElem?_eq_some_iff.1 h).2]
  rw [e, findFrom]
theorem findFrom_end {x : List UInt8} {l : List (List UInt8)} {j : Nat} (h : l.length ≤ j) : findFrom x (l.drop j) j = -1 := by rw [List.drop_eq_nil_of_le h]; rfl
theorem bs_eq {x : List UInt8} {s : ByteArray} : ((bs x).toList == s.toList) = decide (x = s.data.toList) := by
  rw [ByteArray.toList_eq, ByteArray.toList_eq, show (bs x).data.toList = x by simp [bs]]
  by_cases h : x = s.data.toList
  · rw [h]; simp
  · rw [decide_eq_false h]; simpa using h
theorem bs_eq' {x : List UInt8} {s : ByteArray} : (s.toList == (bs x).toList) = decide (x = s.data.toList) := by
  rw [← bs_eq, Bool.eq_iff_iff, beq_iff_eq, beq_iff_eq]
  exact ⟨fun h => h.symm, fun h => h.symm⟩
def okI64 (x : Int) : Prop := -9223372036854775808 ≤ x ∧ x ≤ 9223372036854775807
/-- a slice of texts that the call has made -/
def RetTab (w : World) (l : List (List UInt8)) (e : Ending) (w' : World) : Prop := e = .returned (.slice (some ⟨w.heap.size, 0, none⟩) l.length l.length) ∧ TabAt w' w.heap.size l ∧ Below w.heap.size w w'
theorem tab_made {w : World} {cs : Array Value} {t : TypeId} {l : List (List UInt8)} (h : cs.toList = l.map fun x => Value.string (bs x)) : TabAt (w.alloc (.cells cs t)) w.heap.size l := by
  refine ⟨by simp, fun i x hx => ?_⟩
  rw [World.cell?_alloc_new, ← Array.getElem?_toList, h, List.getElem?_map, hx]
  rfl
theorem s_words (w : World) : Calls Tryd.prog 59 #[] w (RetTab w kwL) := by
  go_enter Tryd.func59, Tryd.ntmps59
  go_wp2
  go_ret
  exact ⟨rfl, tab_made rfl, (Below.refl _ _).alloc (Nat.le_refl _) _⟩
theorem s_signs (w : World) : Calls Tryd.prog 60 #[] w (RetTab w signL) := by
  go_enter Tryd.func60, Tryd.ntmps60
  go_wp2
  go_ret
  exact ⟨rfl, tab_made rfl, (Below.refl _ _).alloc (Nat.le_refl _) _⟩
theorem s_builtins (w : World) : Calls Tryd.prog 66 #[] w (RetTab w biL) := by
  go_enter Tryd.func66, Tryd.ntmps66
  go_wp2
  go_ret
  exact ⟨rfl, tab_made rfl, (Below.refl _ _).alloc (Nat.le_refl _) _⟩
set_option maxRecDepth 100000 in
set_option maxHeartbeats 1000000 in
theorem s_find (g : Nat) (l : List (List UInt8)) (s : ByteArray) (w : World) (hl : l.length ≤ 1000) (h : TabAt w g l) : Calls Tryd.prog 114 #[.slice (some ⟨g, 0, none⟩) l.length l.length, .string s] w fun e w' => e = .returned (.int .i64 (findIx l s)) ∧ w = w' := by
  obtain ⟨R, hR⟩ : ∃ R, findIx l s = R := ⟨_, rfl⟩
  rw [hR]
  have hRH := Lib.hid hR
  clear hR
  obtain ⟨n, hn⟩ : ∃ n, l.length = n := ⟨_, rfl⟩
  rw [hn] at hl ⊢
  have hnH := Lib.hid hn
  have hH := Lib.hid h
  clear hn h
  go_enter Tryd.func114, Tryd.ntmps114
  go_wp2_with fail
  go_loop [5] (fun z => ∃ (j : Nat), j ≤ n ∧ Hid (R = findFrom s.data.toList (l.drop j) j) ∧ z = .int .i64 j) (fun z => (n - (intOf z).toNat))
  case atStart => exact ⟨0, by omega, hRH.out.symm, by go_num⟩
  case round =>
    obtain ⟨j, hj, hd, rfl⟩ := hrel
    by_cases hlt : j < n
    · obtain ⟨y, hy⟩ : ∃ y, l[j]? = some y := ⟨l[j]'(by rw [hnH.out]; exact hlt), List.getElem?_eq_getElem _⟩
      have e0 := hH.out.2 j y hy
      have hdr := Lib.hid (findFrom_drop (x := s.data.toList) hy)
      have hq := Lib.hid (bs_eq (x := y) (s := s))
      clear hy
      cases hxy : (bs y).toList == s.toList
      · have hst : Hid (R = findFrom s.data.toList (l.drop (j + 1)) (j + 1)) := by
          show _ = _
          have h1 := hq.out
          rw [hxy] at h1
          rw [hd.out, hdr.out, if_neg (of_decide_eq_false h1.symm)]
        go_wp2_with fail
        go_round
        case rel => exact ⟨j + 1, by omega, hst, by go_num⟩
        case measure => simp [intOf]; omega
      · have hRj : R = (j : Int) := by
          have h1 := hq.out
          rw [hxy] at h1
          rw [hd.out, hdr.out, if_pos (of_decide_eq_true h1.symm)]
        subst hRj
        go_wp2_with fail
        go_ret
        exact ⟨rfl, rfl⟩
    · obtain rfl : j = n := by omega
      have hRj : R = -1 := by rw [hd.out, findFrom_end (by rw [hnH.out]; omega)]
      subst hRj
      go_wp2_with fail
      go_ret
      exact ⟨rfl, rfl⟩
set_option maxRecDepth 100000 in
set_option maxHeartbeats 1000000 in
theorem i_indexStr (g : Nat) (l : List (List UInt8)) (s : ByteArray) (w : World) (hl : l.length ≤ 1000) (h : TabAt w g l) : Calls Tryd.prog 61 #[.slice (some ⟨g, 0, none⟩) l.length l.length, .string s] w fun e w' => e = .returned (.int .i64 (findIx l s)) ∧ w = w' := by
  obtain ⟨R, hR⟩ : ∃ R, findIx l s = R := ⟨_, rfl⟩
  rw [hR]
  have hRH := Lib.hid hR
  clear hR
  obtain ⟨n, hn⟩ : ∃ n, l.length = n := ⟨_, rfl⟩
  rw [hn] at hl ⊢
  have hnH := Lib.hid hn
  have hH := Lib.hid h
  clear hn h
  go_enter Tryd.func61, Tryd.ntmps61
  go_wp2_with fail
  go_loop [8] (fun z => ∃ (j : Nat), j ≤ n ∧ Hid (R = findFrom s.data.toList (l.drop j) j) ∧ z = .int .i64 j) (fun z => (n - (intOf z).toNat))
  case atStart => exact ⟨0, by omega, hRH.out.symm, by go_num⟩
  case round =>
    obtain ⟨j, hj, hd, rfl⟩ := hrel
    by_cases hlt : j < n
    · obtain ⟨y, hy⟩ : ∃ y, l[j]? = some y := ⟨l[j]'(by rw [hnH.out]; exact hlt), List.getElem?_eq_getElem _⟩
      have e0 := hH.out.2 j y hy
      have hdr := Lib.hid (findFrom_drop (x := s.data.toList) hy)
      have hq := Lib.hid (bs_eq' (x := y) (s := s))
      clear hy
      cases hxy : s.toList == (bs y).toList
      · have hst : Hid (R = findFrom s.data.toList (l.drop (j + 1)) (j + 1)) := by
          show _ = _
          have h1 := hq.out
          rw [hxy] at h1
          rw [hd.out, hdr.out, if_neg (of_decide_eq_false h1.symm)]
        go_wp2_with fail
        go_round
        case rel => exact ⟨j + 1, by omega, hst, by go_num⟩
        case measure => simp [intOf]; omega
      · have hRj : R = (j : Int) := by
          have h1 := hq.out
          rw [hxy] at h1
          rw [hd.out, hdr.out, if_pos (of_decide_eq_true h1.symm)]
        subst hRj
        go_wp2_with fail
        go_ret
        exact ⟨rfl, rfl⟩
    · obtain rfl : j = n := by omega
      have hRj : R = -1 := by rw [hd.out, findFrom_end (by rw [hnH.out]; omega)]
      subst hRj
      go_wp2_with fail
      go_ret
      exact ⟨rfl, rfl⟩
theorem s_isBuiltin (s : ByteArray) (w : World) : Calls Tryd.prog 73 #[.string s] w fun e w' => e = .returned (.bool (isBuiltinB s)) ∧ Below w.heap.size w w' := by
  have hF := Lib.hid (show isBuiltinB s = decide (0 ≤ findIx biL s) from rfl)
  go_enter Tryd.func73, Tryd.ntmps73
  go_wp2_with fail
  refine (s_builtins _).mono ?_
  rintro e w1 ⟨rfl, ht, hb⟩
  have htH := Lib.hid ht
  clear ht
  go_wp2_with fail
  refine (s_find _ biL _ _ (by decide) htH.out).mono ?_
  rintro e w' ⟨rfl, rfl⟩
  go_wp2_with fail
  go_ret
  exact ⟨ret_bool (by rw [hF.out]), hb⟩
theorem s_keywordOf (s : ByteArray) (w : World) : Calls Tryd.prog 72 #[.string s] w fun e w' => e = .returned (.int .i64 (keywordOf s)) ∧ Below w.heap.size w w' := by
  have hr := findIx_range kwL s
  have e17 : kwL.length = 17 := rfl
  rw [e17] at hr
  clear e17
  obtain ⟨K, hK⟩ : ∃ K, findIx kwL s = K := ⟨_, rfl⟩
  have hF := Lib.hid (show keywordOf s = if K < 0 then 0 else 10 + K by unfold keywordOf; rw [hK])
  have hKH := Lib.hid hK
  rw [hK] at hr
  clear hK
  by_cases hneg : K < 0
  · go_enter Tryd.func72, Tryd.ntmps72
    go_wp2_with fail
    refine (s_words _).mono ?_
    rintro e w1 ⟨rfl, ht, hb⟩
    have htH := Lib.hid ht
    clear ht
    go_wp2_with fail
    refine (s_find _ kwL _ _ (by decide) htH.out).mono ?_
    rintro e w' ⟨rfl, rfl⟩
    rw [hKH.out]
    go_wp2_with fail
    go_ret
    exact ⟨ret_int (by rw [hF.out, if_pos hneg]), hb⟩
  · go_enter Tryd.func72, Tryd.ntmps72
    go_wp2_with fail
    refine (s_words _).mono ?_
    rintro e w1 ⟨rfl, ht, hb⟩
    have htH := Lib.hid ht
    clear ht
    go_wp2_with fail
    refine (s_find _ kwL _ _ (by decide) htH.out).mono ?_
    rintro e w' ⟨rfl, rfl⟩
    rw [hKH.out]
    go_wp2_with fail
    go_ret
    exact ⟨ret_int (by rw [hF.out, if_neg (by omega)]), hb⟩
theorem s_nameOk (s : ByteArray) (w : World) (hs : s.size ≤ 16777216) : Calls Tryd.prog 19 #[.string s] w fun e w' => e = .returned (.bool (nameOkB s)) ∧ Below w.heap.size w w' := by
  obtain ⟨R, hR⟩ : ∃ R, nameOkB s = R := ⟨_, rfl⟩
  rw [hR]
  have hRH := Lib.hid hR
  clear hR
  cases h1 : nameShape s
  · have hRF : R = false := by rw [← hRH.out, nameOkB, h1]; rfl
    subst hRF
    go_enter Tryd.func19, Tryd.ntmps19
    go_wp2_with (go_at_call 71; refine (s_nameShape _ _ hs).mono ?_; rintro e w' ⟨rfl, rfl⟩)
    go_ret
    exact ⟨rfl, Below.refl _ _⟩
  · cases h2 : keywordOf s == 0
    · have hRF : R = false := by rw [← hRH.out, nameOkB, h1, h2]; rfl
      subst hRF
      go_enter Tryd.func19, Tryd.ntmps19
      go_wp2_with (first | (go_at_call 71; refine (s_nameShape _ _ hs).mono ?_; rintro e w' ⟨rfl, rfl⟩) | (go_at_call 72; refine (s_keywordOf _ _).mono ?_; rintro e w1 ⟨rfl, hb1⟩))
      go_ret
      exact ⟨rfl, hb1⟩
    · have h2H := Lib.hid (eq_of_beq h2)
      have hRF : R = !isBuiltinB s := by rw [← hRH.out, nameOkB, h1, h2]; rfl
      subst hRF
      clear h2
      go_enter Tryd.func19, Tryd.ntmps19
      go_wp2_with (first | (go_at_call 71; refine (s_nameShape _ _ hs).mono ?_; rintro e w' ⟨rfl, rfl⟩) | (go_at_call 72; refine (s_keywordOf _ _).mono ?_; rintro e w1 ⟨rfl, hb1⟩; rw [h2H.out]) | (go_at_call 73; refine (s_isBuiltin _ _).mono ?_; rintro e w2 ⟨rfl, hb2⟩))
      go_ret
      exact ⟨rfl, hb1.trans (hb2.mono hb1.size)⟩
theorem spellOf_kw {j : Nat} {x : List UInt8} (h : kwL[j]? = some x) : spellOf ((j : Int) + 10) = bs x := by
  have hj : j < 17 := (List.getElem?_eq_some_iff.1 h).1
  unfold spellOf
  rw [if_neg (by simp; omega), if_pos (inB_true.2 (by omega))]
  have e : ((j : Int) + 10 - 10).toNat = j := by omega
  rw [e, List.getD_eq_getElem?_getD, h]
  rfl
theorem spellOf_sg {j : Nat} {x : List UInt8} (h : signL[j]? = some x) : spellOf ((j : Int) + 30) = bs x := by
  have hj : j < 39 := (List.getElem?_eq_some_iff.1 h).1
  unfold spellOf
  rw [if_neg (by simp; omega), if_neg (by rw [Bool.not_eq_true, inB_false]; omega), if_pos (inB_true.2 (by omega))]
  have e : ((j : Int) + 30 - 30).toNat = j := by omega
  rw [e, List.getD_eq_getElem?_getD, h]
  rfl
theorem spellOf_no {k : Int} (h1 : (k == 1) = false) (h2 : inB k 10 26 = false) (h3 : inB k 30 68 = false) : spellOf k = ⟨#[]⟩ := by
  unfold spellOf
  rw [h1, h2, h3]
  rfl
/-- the cases of a kind -/
theorem kind_cases (k : Int) (P : Int → Prop) (h1 : P 1) (hk : ∀ (j : Nat) (x : List UInt8), j < 17 → kwL[j]? = some x → P ((j : Int) + 10)) (hs : ∀ (j : Nat) (x : List UInt8), j < 39 → signL[j]? = some x → P ((j : Int) + 30))
    (hn : (k == 1) = false → inB k 10 26 = false → inB k 30 68 = false → P k) : P k := by
  by_cases c1 : k = 1
  · rw [c1]; exact h1
  · cases c2 : inB k 10 26
    · cases c3 : inB k 30 68
      · exact hn (by simpa using c1) c2 c3
      · have := inB_true.1 c3
        have hj : (k - 30).toNat < 39 := by omega
        have e : k = (((k - 30).toNat : Nat) : Int) + 30 := by omega
        rw [e]
        exact hs _ _ hj (List.getElem?_eq_getElem hj)
    · have := inB_true.1 c2
      have hj : (k - 10).toNat < 17 := by omega
      have e : k = (((k - 10).toNat : Nat) : Int) + 10 := by omega
      rw [e]
      exact hk _ _ hj (List.getElem?_eq_getElem hj)
theorem s_spellOf (k : Int) (w : World) (ho : okI64 k) : Calls Tryd.prog 12 #[.int .i64 k] w fun e w' => e = .returned (.string (spellOf k)) ∧ Below w.heap.size w w' := by
  obtain ⟨ho1, ho2⟩ := ho
  refine kind_cases k (fun k => Calls Tryd.prog 12 #[.int .i64 k] w fun e w' => e = .returned (.string (spellOf k)) ∧ Below w.heap.size w w') ?_ ?_ ?_ ?_
  · go_enter Tryd.func12, Tryd.ntmps12
    go_wp2_with fail
    go_ret
    exact ⟨rfl, Below.refl _ _⟩
  · intro j x hj hx
    rw [spellOf_kw hx]
    have q1 : ((j : Int) + 10 == 1) = false := by rw [beq_eq_false_iff_ne]; omega
    have q2 : inB ((j : Int) + 10) 10 26 = true := inB_true.2 (by omega)
    have hxH := Lib.hid hx
    clear hx
    go_enter Tryd.func12, Tryd.ntmps12
    go_wp2_with (first | (go_at_call 58; refine (s_l1In _ _ _ _).mono ?_; rintro e w' ⟨rfl, rfl⟩) | (go_at_call 59; refine (s_words _).mono ?_; rintro e w1 ⟨rfl, ht, hb⟩; have hc := ht.2 j x hxH.out; clear ht; have h17 : kwL.length = 17 := rfl; rw [h17]; clear h17))
    go_ret
    exact ⟨rfl, hb⟩
  · intro j x hj hx
    rw [spellOf_sg hx]
    have q1 : ((j : Int) + 30 == 1) = false := by rw [beq_eq_false_iff_ne]; omega
    have q2 : inB ((j : Int) + 30) 10 26 = false := by rw [inB_false]; omega
    have q3 : inB ((j : Int) + 30) 30 68 = true := inB_true.2 (by omega)
    have hxH := Lib.hid hx
    clear hx
    go_enter Tryd.func12, Tryd.ntmps12
    go_wp2_with (first | (go_at_call 58; refine (s_l1In _ _ _ _).mono ?_; rintro e w' ⟨rfl, rfl⟩) | (go_at_call 60; refine (s_signs _).mono ?_; rintro e w1 ⟨rfl, ht, hb⟩; have hc := ht.2 j x hxH.out; clear ht; have h39 : signL.length = 39 := rfl; rw [h39]; clear h39))
    go_ret
    exact ⟨rfl, hb⟩
  · intro q1 q2 q3
    rw [spellOf_no q1 q2 q3]
    go_enter Tryd.func12, Tryd.ntmps12
    go_wp2_with (first | (go_at_call 58; refine (s_l1In _ _ _ _).mono ?_; rintro e w' ⟨rfl, rfl⟩))
    go_ret
    exact ⟨rfl, Below.refl _ _⟩
end Go.Proofs.YtdajhcammnlonaaDoor
