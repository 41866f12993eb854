/- Several texts in one (printed by a program): Tabs, TabsI, Tok. -/
import Derived.Test.YtlabmboedjnpmaaGreatDoorLaid
import Derived.Test.YtlabmboedjnpmaaGreatDoorScan
import Derived.Test.YtlabmboedjnpmaaGreatDoorMemR
import Derived.Lib.Hide
import Derived.Test.YtlabmboedjnpmaaGreatDoorLexR
import Derived.Deep.QuietTactic
import Derived.BigQuiet
import Derived.Laws.Runes
/-! Tabs -/
namespace Go.Proofs.YtlabmboedjnpmaaGreatDoor
open Go.RowKit
set_option linter.unusedVariables false

theorem findFrom_drop {x : List UInt8} {l : List (List UInt8)} {j : Nat} {y : List UInt8} (h : l[j]? = some y) : findFrom x (l.drop j) j = if y = x then (j : Int) else findFrom x (l.drop (j + 1)) (j + 1) := by
  have hj := (List.getElem?_eq_some_iff.1 h).1
  have e : l.drop j = y :: l.drop (j + 1) := by rw [List.drop_eq_getElem_cons hj, (List.getElem?_eq_some_iff.1 h).2]
  rw [e, findFrom]
theorem findFrom_end {x : List UInt8} {l : List (List UInt8)} {j : Nat} (h : l.length ≤ j) : findFrom x (l.drop j) j = -1 := by rw [List.drop_eq_nil_of_le h]; rfl
theorem bs_eq {x : List UInt8} {s : ByteArray} : ((bs x).toList == s.toList) = decide (x = s.data.toList) := by
  rw [ByteArray.toList_eq, ByteArray.toList_eq, show (bs x).data.toList = x by simp [bs]]
  by_cases h : x = s.data.toList
  · rw [h]; simp
  · rw [decide_eq_false h]; simpa using h
theorem bs_eq' {x : List UInt8} {s : ByteArray} : (s.toList == (bs x).toList) = decide (x = s.data.toList) := by
  rw [← bs_eq, Bool.eq_iff_iff, beq_iff_eq, beq_iff_eq]
  exact ⟨fun h => h.symm, fun h => h.symm⟩
def okI64 (x : Int) : Prop := -9223372036854775808 ≤ x ∧ x ≤ 9223372036854775807
/-- a slice of texts that the call has made -/
def RetTab (w : World) (l : List (List UInt8)) (e : Ending) (w' : World) : Prop := e = .returned (.slice (some ⟨w.heap.size, 0, none⟩) l.length l.length) ∧ TabAt w' w.heap.size l ∧ Below w.heap.size w w'
theorem tab_made {w : World} {cs : Array Value} {t : TypeId} {l : List (List UInt8)} (h : cs.toList = l.map fun x => Value.string (bs x)) : TabAt (w.alloc (.cells cs t)) w.heap.size l := by
  refine ⟨by simp, fun i x hx => ?_⟩
  rw [World.cell?_alloc_new, ← Array.getElem?_toList, h, List.getElem?_map, hx]
  rfl
theorem s_words (w : World) : Calls Tryz.prog 105 #[] w (RetTab w kwL) := by
  go_enter Tryz.func105, Tryz.ntmps105
  go_wp2
  go_ret
  exact ⟨rfl, tab_made rfl, (Below.refl _ _).alloc (Nat.le_refl _) _⟩
theorem s_signs (w : World) : Calls Tryz.prog 109 #[] w (RetTab w signL) := by
  go_enter Tryz.func109, Tryz.ntmps109
  go_wp2
  go_ret
  exact ⟨rfl, tab_made rfl, (Below.refl _ _).alloc (Nat.le_refl _) _⟩
theorem s_builtins (w : World) : Calls Tryz.prog 90 #[] w (RetTab w biL) := by
  go_enter Tryz.func90, Tryz.ntmps90
  go_wp2
  go_ret
  exact ⟨rfl, tab_made rfl, (Below.refl _ _).alloc (Nat.le_refl _) _⟩
set_option maxRecDepth 100000 in
set_option maxHeartbeats 1000000 in
theorem s_find (g : Nat) (l : List (List UInt8)) (s : ByteArray) (w : World) (hl : l.length ≤ 1000) (h : TabAt w g l) : Calls Tryz.prog 89 #[.slice (some ⟨g, 0, none⟩) l.length l.length, .string s] w fun e w' => e = .returned (.int .i64 (findIx l s)) ∧ w = w' := by
  obtain ⟨R, hR⟩ : ∃ R, findIx l s = R := ⟨_, rfl⟩
  rw [hR]
  have hRH := Lib.hid hR
  clear hR
  obtain ⟨n, hn⟩ : ∃ n, l.length = n := ⟨_, rfl⟩
  rw [hn] at hl ⊢
  have hnH := Lib.hid hn
  have hH := Lib.hid h
  clear hn h
  go_enter Tryz.func89, Tryz.ntmps89
  go_wp2_with fail
  go_loop [5] (fun z => ∃ (j : Nat), j ≤ n ∧ Hid (R = findFrom s.data.toList (l.drop j) j) ∧ z = .int .i64 j) (fun z => (n - (intOf z).toNat))
  case atStart => exact ⟨0, by omega, hRH.out.symm, by go_num⟩
  case round =>
    obtain ⟨j, hj, hd, rfl⟩ := hrel
    by_cases hlt : j < n
    · obtain ⟨y, hy⟩ : ∃ y, l[j]? = some y := ⟨l[j]'(by rw [hnH.out]; exact hlt), List.getElem?_eq_getElem _⟩
      have e0 := hH.out.2 j y hy
      have hdr := Lib.hid (findFrom_drop (x := s.data.toList) hy)
      have hq := Lib.hid (bs_eq (x := y) (s := s))
      clear hy
      cases hxy : (bs y).toList == s.toList
      · have hst : Hid (R = findFrom s.data.toList (l.drop (j + 1)) (j + 1)) := by
          show _ = _
          have h1 := hq.out
          rw [hxy] at h1
          rw [hd.out, hdr.out, if_neg (of_decide_eq_false h1.symm)]
        go_wp2_with fail
        go_round
        case rel => exact ⟨j + 1, by omega, hst, by go_num⟩
        case measure => simp [intOf]; omega
      · have hRj : R = (j : Int) := by
          have h1 := hq.out
          rw [hxy] at h1
          rw [hd.out, hdr.out, if_pos (of_decide_eq_true h1.symm)]
        subst hRj
        go_wp2_with fail
        go_ret
        exact ⟨rfl, rfl⟩
    · obtain rfl : j = n := by omega
      have hRj : R = -1 := by rw [hd.out, findFrom_end (by rw [hnH.out]; omega)]
      subst hRj
      go_wp2_with fail
      go_ret
      exact ⟨rfl, rfl⟩
set_option maxRecDepth 100000 in
set_option maxHeartbeats 1000000 in
theorem i_indexStr (g : Nat) (l : List (List UInt8)) (s : ByteArray) (w : World) (hl : l.length ≤ 1000) (h : TabAt w g l) : Calls Tryz.prog 72 #[.slice (some ⟨g, 0, none⟩) l.length l.length, .string s] w fun e w' => e = .returned (.int .i64 (findIx l s)) ∧ w = w' := by
  obtain ⟨R, hR⟩ : ∃ R, findIx l s = R := ⟨_, rfl⟩
  rw [hR]
  have hRH := Lib.hid hR
  clear hR
  obtain ⟨n, hn⟩ : ∃ n, l.length = n := ⟨_, rfl⟩
  rw [hn] at hl ⊢
  have hnH := Lib.hid hn
  have hH := Lib.hid h
  clear hn h
  go_enter Tryz.func72, Tryz.ntmps72
  go_wp2_with fail
  go_loop [8] (fun z => ∃ (j : Nat), j ≤ n ∧ Hid (R = findFrom s.data.toList (l.drop j) j) ∧ z = .int .i64 j) (fun z => (n - (intOf z).toNat))
  case atStart => exact ⟨0, by omega, hRH.out.symm, by go_num⟩
  case round =>
    obtain ⟨j, hj, hd, rfl⟩ := hrel
    by_cases hlt : j < n
    · obtain ⟨y, hy⟩ : ∃ y, l[j]? = some y := ⟨l[j]'(by rw [hnH.out]; exact hlt), List.getElem?_eq_getElem _⟩
      have e0 := hH.out.2 j y hy
      have hdr := Lib.hid (findFrom_drop (x := s.data.toList) hy)
      have hq := Lib.hid (bs_eq' (x := y) (s := s))
      clear hy
      cases hxy : s.toList == (bs y).toList
      · have hst : Hid (R = findFrom s.data.toList (l.drop (j + 1)) (j + 1)) := by
          show _ = _
          have h1 := hq.out
          rw [hxy] at h1
          rw [hd.out, hdr.out, if_neg (of_decide_eq_false h1.symm)]
        go_wp2_with fail
        go_round
        case rel => exact ⟨j + 1, by omega, hst, by go_num⟩
        case measure => simp [intOf]; omega
      · have hRj : R = (j : Int) := by
          have h1 := hq.out
          rw [hxy] at h1
          rw [hd.out, hdr.out, if_pos (of_decide_eq_true h1.symm)]
        subst hRj
        go_wp2_with fail
        go_ret
        exact ⟨rfl, rfl⟩
    · obtain rfl : j = n := by omega
      have hRj : R = -1 := by rw [hd.out, findFrom_end (by rw [hnH.out]; omega)]
      subst hRj
      go_wp2_with fail
      go_ret
      exact ⟨rfl, rfl⟩
theorem s_isBuiltin (s : ByteArray) (w : World) : Calls Tryz.prog 64 #[.string s] w fun e w' => e = .returned (.bool (isBuiltinB s)) ∧ Below w.heap.size w w' := by
  have hF := Lib.hid (show isBuiltinB s = decide (0 ≤ findIx biL s) from rfl)
  go_enter Tryz.func64, Tryz.ntmps64
  go_wp2_with fail
  refine (s_builtins _).mono ?_
  rintro e w1 ⟨rfl, ht, hb⟩
  have htH := Lib.hid ht
  clear ht
  go_wp2_with fail
  refine (s_find _ biL _ _ (by decide) htH.out).mono ?_
  rintro e w' ⟨rfl, rfl⟩
  go_wp2_with fail
  go_ret
  exact ⟨ret_bool (by rw [hF.out]), hb⟩
theorem s_keywordOf (s : ByteArray) (w : World) : Calls Tryz.prog 83 #[.string s] w fun e w' => e = .returned (.int .i64 (keywordOf s)) ∧ Below w.heap.size w w' := by
  have hr := findIx_range kwL s
  have e17 : kwL.length = 17 := rfl
  rw [e17] at hr
  clear e17
  obtain ⟨K, hK⟩ : ∃ K, findIx kwL s = K := ⟨_, rfl⟩
  have hF := Lib.hid (show keywordOf s = if K < 0 then 0 else 10 + K by unfold keywordOf; rw [hK])
  have hKH := Lib.hid hK
  rw [hK] at hr
  clear hK
  by_cases hneg : K < 0
  · go_enter Tryz.func83, Tryz.ntmps83
    go_wp2_with fail
    refine (s_words _).mono ?_
    rintro e w1 ⟨rfl, ht, hb⟩
    have htH := Lib.hid ht
    clear ht
    go_wp2_with fail
    refine (s_find _ kwL _ _ (by decide) htH.out).mono ?_
    rintro e w' ⟨rfl, rfl⟩
    rw [hKH.out]
    go_wp2_with fail
    go_ret
    exact ⟨ret_int (by rw [hF.out, if_pos hneg]), hb⟩
  · go_enter Tryz.func83, Tryz.ntmps83
    go_wp2_with fail
    refine (s_words _).mono ?_
    rintro e w1 ⟨rfl, ht, hb⟩
    have htH := Lib.hid ht
    clear ht
    go_wp2_with fail
    refine (s_find _ kwL _ _ (by decide) htH.out).mono ?_
    rintro e w' ⟨rfl, rfl⟩
    rw [hKH.out]
    go_wp2_with fail
    go_ret
    exact ⟨ret_int (by rw [hF.out, if_neg (by omega)]), hb⟩
theorem s_nameOk (s : ByteArray) (w : World) (hs : s.size ≤ 16777216) : Calls Tryz.prog 62 #[.string s] w fun e w' => e = .returned (.bool (nameOkB s)) ∧ Below w.heap.size w w' := by
  obtain ⟨R, hR⟩ : ∃ R, nameOkB s = R := ⟨_, rfl⟩
  rw [hR]
  have hRH := Lib.hid hR
  clear hR
  cases h1 : nameShape s
  · have hRF : R = false := by rw [← hRH.out, nameOkB, h1]; rfl
    subst hRF
    go_enter Tryz.func62, Tryz.ntmps62
    go_wp2_with (go_at_call 82; refine (s_nameShape _ _ hs).mono ?_; rintro e w' ⟨rfl, rfl⟩)
    go_ret
    exact ⟨rfl, Below.refl _ _⟩
  · cases h2 : keywordOf s == 0
    · have hRF : R = false := by rw [← hRH.out, nameOkB, h1, h2]; rfl
      subst hRF
      go_enter Tryz.func62, Tryz.ntmps62
      go_wp2_with (first | (go_at_call 82; refine (s_nameShape _ _ hs).mono ?_; rintro e w' ⟨rfl, rfl⟩) | (go_at_call 83; refine (s_keywordOf _ _).mono ?_; rintro e w1 ⟨rfl, hb1⟩))
      go_ret
      exact ⟨rfl, hb1⟩
    · have h2H := Lib.hid (eq_of_beq h2)
      have hRF : R = !isBuiltinB s := by rw [← hRH.out, nameOkB, h1, h2]; rfl
      subst hRF
      clear h2
      go_enter Tryz.func62, Tryz.ntmps62
      go_wp2_with (first | (go_at_call 82; refine (s_nameShape _ _ hs).mono ?_; rintro e w' ⟨rfl, rfl⟩) | (go_at_call 83; refine (s_keywordOf _ _).mono ?_; rintro e w1 ⟨rfl, hb1⟩; rw [h2H.out]) | (go_at_call 64; refine (s_isBuiltin _ _).mono ?_; rintro e w2 ⟨rfl, hb2⟩))
      go_ret
      exact ⟨rfl, hb1.trans (hb2.mono hb1.size)⟩
theorem spellOf_kw {j : Nat} {x : List UInt8} (h : kwL[j]? = some x) : spellOf ((j : Int) + 10) = bs x := by
  have hj : j < 17 := (List.getElem?_eq_some_iff.1 h).1
  unfold spellOf
  rw [if_neg (by simp; omega), if_pos (inB_true.2 (by omega))]
  have e : ((j : Int) + 10 - 10).toNat = j := by omega
  rw [e, List.getD_eq_getElem?_getD, h]
  rfl
theorem spellOf_sg {j : Nat} {x : List UInt8} (h : signL[j]? = some x) : spellOf ((j : Int) + 30) = bs x := by
  have hj : j < 39 := (List.getElem?_eq_some_iff.1 h).1
  unfold spellOf
  rw [if_neg (by simp; omega), if_neg (by rw [Bool.not_eq_true, inB_false]; omega), if_pos (inB_true.2 (by omega))]
  have e : ((j : Int) + 30 - 30).toNat = j := by omega
  rw [e, List.getD_eq_getElem?_getD, h]
  rfl
theorem spellOf_no {k : Int} (h1 : (k == 1) = false) (h2 : inB k 10 26 = false) (h3 : inB k 30 68 = false) : spellOf k = ⟨#[]⟩ := by
  unfold spellOf
  rw [h1, h2, h3]
  rfl
/-- the cases of a kind -/
theorem kind_cases (k : Int) (P : Int → Prop) (h1 : P 1) (hk : ∀ (j : Nat) (x : List UInt8), j < 17 → kwL[j]? = some x → P ((j : Int) + 10)) (hs : ∀ (j : Nat) (x : List UInt8), j < 39 → signL[j]? = some x → P ((j : Int) + 30))
    (hn : (k == 1) = false → inB k 10 26 = false → inB k 30 68 = false → P k) : P k := by
  by_cases c1 : k = 1
  · rw [c1]; exact h1
  · cases c2 : inB k 10 26
    · cases c3 : inB k 30 68
      · exact hn (by simpa using c1) c2 c3
      · have := inB_true.1 c3
        have hj : (k - 30).toNat < 39 := by omega
        have e : k = (((k - 30).toNat : Nat) : Int) + 30 := by omega
        rw [e]
        exact hs _ _ hj (List.getElem?_eq_getElem hj)
    · have := inB_true.1 c2
      have hj : (k - 10).toNat < 17 := by omega
      have e : k = (((k - 10).toNat : Nat) : Int) + 10 := by omega
      rw [e]
      exact hk _ _ hj (List.getElem?_eq_getElem hj)
theorem s_spellOf (k : Int) (w : World) (ho : okI64 k) : Calls Tryz.prog 88 #[.int .i64 k] w fun e w' => e = .returned (.string (spellOf k)) ∧ Below w.heap.size w w' := by
  obtain ⟨ho1, ho2⟩ := ho
  refine kind_cases k (fun k => Calls Tryz.prog 88 #[.int .i64 k] w fun e w' => e = .returned (.string (spellOf k)) ∧ Below w.heap.size w w') ?_ ?_ ?_ ?_
  · go_enter Tryz.func88, Tryz.ntmps88
    go_wp2_with fail
    go_ret
    exact ⟨rfl, Below.refl _ _⟩
  · intro j x hj hx
    rw [spellOf_kw hx]
    have q1 : ((j : Int) + 10 == 1) = false := by rw [beq_eq_false_iff_ne]; omega
    have q2 : inB ((j : Int) + 10) 10 26 = true := inB_true.2 (by omega)
    have hxH := Lib.hid hx
    clear hx
    go_enter Tryz.func88, Tryz.ntmps88
    go_wp2_with (first | (go_at_call 30; refine (s_l1In _ _ _ _).mono ?_; rintro e w' ⟨rfl, rfl⟩) | (go_at_call 105; refine (s_words _).mono ?_; rintro e w1 ⟨rfl, ht, hb⟩; have hc := ht.2 j x hxH.out; clear ht; have h17 : kwL.length = 17 := rfl; rw [h17]; clear h17))
    go_ret
    exact ⟨rfl, hb⟩
  · intro j x hj hx
    rw [spellOf_sg hx]
    have q1 : ((j : Int) + 30 == 1) = false := by rw [beq_eq_false_iff_ne]; omega
    have q2 : inB ((j : Int) + 30) 10 26 = false := by rw [inB_false]; omega
    have q3 : inB ((j : Int) + 30) 30 68 = true := inB_true.2 (by omega)
    have hxH := Lib.hid hx
    clear hx
    go_enter Tryz.func88, Tryz.ntmps88
    go_wp2_with (first | (go_at_call 30; refine (s_l1In _ _ _ _).mono ?_; rintro e w' ⟨rfl, rfl⟩) | (go_at_call 109; refine (s_signs _).mono ?_; rintro e w1 ⟨rfl, ht, hb⟩; have hc := ht.2 j x hxH.out; clear ht; have h39 : signL.length = 39 := rfl; rw [h39]; clear h39))
    go_ret
    exact ⟨rfl, hb⟩
  · intro q1 q2 q3
    rw [spellOf_no q1 q2 q3]
    go_enter Tryz.func88, Tryz.ntmps88
    go_wp2_with (first | (go_at_call 30; refine (s_l1In _ _ _ _).mono ?_; rintro e w' ⟨rfl, rfl⟩))
    go_ret
    exact ⟨rfl, Below.refl _ _⟩
end Go.Proofs.YtlabmboedjnpmaaGreatDoor
/-! TabsI -/
namespace Go.Proofs.YtlabmboedjnpmaaGreatDoor
open Go.RowKit
set_option linter.unusedVariables false

theorem findIx_dec (l : List (List UInt8)) (s : ByteArray) : decide (0 ≤ findIx l s) = !decide (findIx l s < 0) := by
  by_cases h : findIx l s < 0
  · rw [decide_eq_true h, decide_eq_false (by omega)]; rfl
  · rw [decide_eq_false h, decide_eq_true (by omega)]; rfl
theorem i_containsStr (g : Nat) (l : List (List UInt8)) (s : ByteArray) (w : World) (hl : l.length ≤ 1000) (h : TabAt w g l) : Calls Tryz.prog 53 #[.slice (some ⟨g, 0, none⟩) l.length l.length, .string s] w fun e w' => e = .returned (.bool (decide (0 ≤ findIx l s))) ∧ w = w' := by
  have hH := Lib.hid h
  clear h
  go_enter Tryz.func53, Tryz.ntmps53
  go_wp2_with (go_at_call 72; refine (i_indexStr _ l _ _ hl hH.out).mono ?_; rintro e w' ⟨rfl, rfl⟩)
  go_ret
  exact ⟨rfl, rfl⟩
theorem i_isBuiltin (s : ByteArray) (w : World) (h : TabAt w 0 biL) : Calls Tryz.prog 50 #[.string s] w fun e w' => e = .returned (.bool (isBuiltinB s)) ∧ w = w' := by
  have hF := Lib.hid (show isBuiltinB s = decide (0 ≤ findIx biL s) from rfl)
  have hH := Lib.hid h
  clear h
  go_enter Tryz.func50, Tryz.ntmps50
  go_wp2_with (go_at_call 53; refine (i_containsStr _ biL _ _ (by decide) hH.out).mono ?_; rintro e w' ⟨rfl, rfl⟩)
  go_ret
  exact ⟨ret_bool (by rw [hF.out]), rfl⟩
theorem i_keywordOf (s : ByteArray) (w : World) (h : TabAt w 1 kwL) : Calls Tryz.prog 66 #[.string s] w fun e w' => e = .returned (.int .i64 (keywordOf s)) ∧ w = w' := by
  have hr := findIx_range kwL s
  have e17 : kwL.length = 17 := rfl
  rw [e17] at hr
  clear e17
  obtain ⟨K, hK⟩ : ∃ K, findIx kwL s = K := ⟨_, rfl⟩
  have hF := Lib.hid (show keywordOf s = if K < 0 then 0 else 10 + K by unfold keywordOf; rw [hK])
  have hKH := Lib.hid hK
  rw [hK] at hr
  have hH := Lib.hid h
  clear hK h
  by_cases hneg : K < 0
  · go_enter Tryz.func66, Tryz.ntmps66
    go_wp2_with (go_at_call 72; refine (i_indexStr _ kwL _ _ (by decide) hH.out).mono ?_; rintro e w' ⟨rfl, rfl⟩; rw [hKH.out])
    go_ret
    exact ⟨ret_int (by rw [hF.out, if_pos hneg]), rfl⟩
  · go_enter Tryz.func66, Tryz.ntmps66
    go_wp2_with (go_at_call 72; refine (i_indexStr _ kwL _ _ (by decide) hH.out).mono ?_; rintro e w' ⟨rfl, rfl⟩; rw [hKH.out])
    go_ret
    exact ⟨ret_int (by rw [hF.out, if_neg (by omega)]), rfl⟩
theorem i_nameOk (s : ByteArray) (w : World) (hs : s.size ≤ 16777216) (hk : TabAt w 1 kwL) (hb : TabAt w 0 biL) : Calls Tryz.prog 48 #[.string s] w fun e w' => e = .returned (.bool (nameOkB s)) ∧ w = w' := by
  obtain ⟨R, hR⟩ : ∃ R, nameOkB s = R := ⟨_, rfl⟩
  rw [hR]
  have hRH := Lib.hid hR
  have hkH := Lib.hid hk
  have hbH := Lib.hid hb
  clear hR hk hb
  cases h1 : nameShape s
  · have hRF : R = false := by rw [← hRH.out, nameOkB, h1]; rfl
    subst hRF
    go_enter Tryz.func48, Tryz.ntmps48
    go_wp2_with (go_at_call 65; refine (i_nameShape _ _ hs).mono ?_; rintro e w' ⟨rfl, rfl⟩)
    go_ret
    exact ⟨rfl, rfl⟩
  · cases h2 : keywordOf s == 0
    · have hRF : R = false := by rw [← hRH.out, nameOkB, h1, h2]; rfl
      subst hRF
      go_enter Tryz.func48, Tryz.ntmps48
      go_wp2_with (first | (go_at_call 65; refine (i_nameShape _ _ hs).mono ?_; rintro e w' ⟨rfl, rfl⟩) | (go_at_call 66; refine (i_keywordOf _ _ hkH.out).mono ?_; rintro e w1 ⟨rfl, rfl⟩))
      go_ret
      exact ⟨rfl, rfl⟩
    · have h2H := Lib.hid (eq_of_beq h2)
      have hRF : R = !isBuiltinB s := by rw [← hRH.out, nameOkB, h1, h2]; rfl
      subst hRF
      clear h2
      go_enter Tryz.func48, Tryz.ntmps48
      go_wp2_with (first | (go_at_call 65; refine (i_nameShape _ _ hs).mono ?_; rintro e w' ⟨rfl, rfl⟩) | (go_at_call 66; refine (i_keywordOf _ _ hkH.out).mono ?_; rintro e w1 ⟨rfl, rfl⟩; rw [h2H.out]) | (go_at_call 50; refine (i_isBuiltin _ _ hbH.out).mono ?_; rintro e w2 ⟨rfl, rfl⟩))
      go_ret
      exact ⟨rfl, rfl⟩
theorem i_isKeywordKind (k : Int) (w : World) : Calls Tryz.prog 97 #[.int .i64 k] w fun e w' => e = .returned (.bool (inB k 10 26)) ∧ w = w' := by
  go_enter Tryz.func97, Tryz.ntmps97
  go_wp2_with (go_at_call 28; refine (i_within _ _ _ _).mono ?_; rintro e w' ⟨rfl, rfl⟩)
  go_ret
  exact ⟨rfl, rfl⟩
theorem i_isSignKind (k : Int) (w : World) : Calls Tryz.prog 98 #[.int .i64 k] w fun e w' => e = .returned (.bool (inB k 30 68)) ∧ w = w' := by
  go_enter Tryz.func98, Tryz.ntmps98
  go_wp2_with (go_at_call 28; refine (i_within _ _ _ _).mono ?_; rintro e w' ⟨rfl, rfl⟩)
  go_ret
  exact ⟨rfl, rfl⟩
theorem i_spellOf (k : Int) (w : World) (ho : okI64 k) (hk : TabAt w 1 kwL) (hs : TabAt w 2 signL) : Calls Tryz.prog 71 #[.int .i64 k] w fun e w' => e = .returned (.string (spellOf k)) ∧ w = w' := by
  obtain ⟨ho1, ho2⟩ := ho
  have hkH := Lib.hid hk
  have hsH := Lib.hid hs
  clear hk hs
  refine kind_cases k (fun k => Calls Tryz.prog 71 #[.int .i64 k] w fun e w' => e = .returned (.string (spellOf k)) ∧ w = w') ?_ ?_ ?_ ?_
  · go_enter Tryz.func71, Tryz.ntmps71
    go_wp2_with fail
    go_ret
    exact ⟨rfl, rfl⟩
  · intro j x hj hx
    rw [spellOf_kw hx]
    have q1 : ((j : Int) + 10 == 1) = false := by rw [beq_eq_false_iff_ne]; omega
    have q2 : inB ((j : Int) + 10) 10 26 = true := inB_true.2 (by omega)
    have hc := hkH.out.2 j x hx
    clear hx
    go_enter Tryz.func71, Tryz.ntmps71
    go_wp2_with (go_at_call 97; refine (i_isKeywordKind _ _).mono ?_; rintro e w' ⟨rfl, rfl⟩)
    go_ret
    exact ⟨rfl, rfl⟩
  · intro j x hj hx
    rw [spellOf_sg hx]
    have q1 : ((j : Int) + 30 == 1) = false := by rw [beq_eq_false_iff_ne]; omega
    have q2 : inB ((j : Int) + 30) 10 26 = false := by rw [inB_false]; omega
    have q3 : inB ((j : Int) + 30) 30 68 = true := inB_true.2 (by omega)
    have hc := hsH.out.2 j x hx
    clear hx
    go_enter Tryz.func71, Tryz.ntmps71
    go_wp2_with (first | (go_at_call 97; refine (i_isKeywordKind _ _).mono ?_; rintro e w' ⟨rfl, rfl⟩) | (go_at_call 98; refine (i_isSignKind _ _).mono ?_; rintro e w' ⟨rfl, rfl⟩))
    go_ret
    exact ⟨rfl, rfl⟩
  · intro q1 q2 q3
    rw [spellOf_no q1 q2 q3]
    go_enter Tryz.func71, Tryz.ntmps71
    go_wp2_with (first | (go_at_call 97; refine (i_isKeywordKind _ _).mono ?_; rintro e w' ⟨rfl, rfl⟩) | (go_at_call 98; refine (i_isSignKind _ _).mono ?_; rintro e w' ⟨rfl, rfl⟩))
    go_ret
    exact ⟨rfl, rfl⟩
end Go.Proofs.YtlabmboedjnpmaaGreatDoor
/-! Tok -/
namespace Go.Proofs.YtlabmboedjnpmaaGreatDoor
open Go.RowKit
set_option linter.unusedVariables false

theorem plainB_iff {s : ByteArray} : plainB s = true ↔ ∀ i (h : i < s.size), s[i] ≠ 10 := by
  unfold plainB
  rw [Bool.not_eq_true', ← Bool.not_eq_true, List.contains_iff_mem]
  constructor
  · intro hh i h e
    exact hh (by rw [Array.mem_toList_iff, Array.mem_iff_getElem]; exact ⟨i, h, e⟩)
  · intro hh hm
    rw [Array.mem_toList_iff, Array.mem_iff_getElem] at hm
    obtain ⟨i, h, e⟩ := hm
    exact hh i h e
theorem tok_empty {t : ByteArray} (h : t.size = 0) : t = bs [] := by
  obtain ⟨⟨l⟩⟩ := t
  have h : l.length = 0 := h
  rw [List.length_eq_zero_iff.1 h]; rfl
theorem tix_run (s : ByteArray) (c : Int) (w : World) : (callFunc 120 #[.string s, .int .u8 c]).run Tryz.prog w = .ok (.value (.int .i64 (firstIdx s c.toNat.toUInt8))) w := by
  rw [run_callFunc_extern (P := Tryz.prog) (e := Extern.BytealgIndexByte.indexByte) Tryz.func120 (by kernel_rfl) (by kernel_rfl) (by kernel_rfl) (by kernel_rfl), run_indexByte_string]
  rfl
set_option maxRecDepth 100000 in
theorem tix (s : ByteArray) (c : Int) (w : World) : Calls Tryz.prog 116 #[.string s, .int .u8 c] w fun e w' => e = .returned (.int .i64 (firstIdx s c.toNat.toUInt8)) ∧ w = w' := by
  have hx := tix_run
  go_enter Tryz.func116, Tryz.ntmps116
  go_wp2
  go_ret
  exact ⟨rfl, rfl⟩
def nlText : ByteArray := { data := #[10] }
/-- where the first line end of a text lies -/
def nlIdx (s : ByteArray) : Int := firstIdx s 10
theorem nlIdx_plain (s : ByteArray) : decide (0 ≤ nlIdx s) = !plainB s := by
  unfold nlIdx
  rw [firstIdx_nonneg]
  unfold plainB
  rw [Bool.not_not, Bool.eq_iff_iff, List.any_eq_true, List.contains_iff_mem]
  constructor
  · rintro ⟨x, hx, e⟩; rw [← eq_of_beq e]; exact hx
  · intro h; exact ⟨_, h, beq_self_eq_true _⟩
theorem nlIdx_self : nlIdx nlText = 0 := by decide
set_option maxRecDepth 100000 in
theorem lite_index (s : ByteArray) (w : World) : Calls Tryz.prog 111 #[.string s, .string { data := #[10] }] w fun e w' => e = .returned (.int .i64 (nlIdx s)) ∧ w = w' := by
  cases h : ([10] : List UInt8) == s.toList
  · go_enter Tryz.func111, Tryz.ntmps111
    go_wp2_with (go_at_call 116; refine (tix _ _ _).mono ?_; rintro e w' ⟨rfl, rfl⟩)
    go_ret
    exact ⟨rfl, rfl⟩
  · have e : s = nlText := by
      have h2 := eq_of_beq h
      rw [ByteArray.toList_eq] at h2
      obtain ⟨⟨l⟩⟩ := s
      have h3 : [10] = l := h2
      rw [← h3]; rfl
    have e0 : nlIdx s = 0 := by rw [e]; exact nlIdx_self
    rw [e0]
    clear e0 e
    go_enter Tryz.func111, Tryz.ntmps111
    go_wp2_with fail
    go_ret
    exact ⟨rfl, rfl⟩
theorem i_index (s : ByteArray) (w : World) : Calls Tryz.prog 93 #[.string s, .string { data := #[10] }] w fun e w' => e = .returned (.int .i64 (nlIdx s)) ∧ w = w' := by
  go_enter Tryz.func93, Tryz.ntmps93
  go_wp2_with (go_at_call 111; refine (lite_index _ _).mono ?_; rintro e w' ⟨rfl, rfl⟩)
  go_ret
  exact ⟨rfl, rfl⟩
theorem i_contains (s : ByteArray) (w : World) : Calls Tryz.prog 67 #[.string s, .string { data := #[10] }] w fun e w' => e = .returned (.bool (!plainB s)) ∧ w = w' := by
  have hF := Lib.hid (nlIdx_plain s)
  go_enter Tryz.func67, Tryz.ntmps67
  go_wp2_with (go_at_call 93; refine (i_index _ _).mono ?_; rintro e w' ⟨rfl, rfl⟩)
  go_ret
  exact ⟨ret_bool (by rw [← hF.out]), rfl⟩
set_option maxRecDepth 100000 in
theorem s_plain (s : ByteArray) (w : World) (hs : s.size ≤ 16777216) : Calls Tryz.prog 84 #[.string s] w fun e w' => e = .returned (.bool (plainB s)) ∧ w = w' := by
  obtain ⟨R, hR⟩ : ∃ R, plainB s = R := ⟨_, rfl⟩
  rw [hR]
  have hRH := Lib.hid hR
  clear hR
  go_enter Tryz.func84, Tryz.ntmps84
  go_wp2_with fail
  go_loop [3] (fun z => ∃ (j : Nat), j ≤ s.size ∧ Hid (∀ i (h : i < s.size), i < j → s[i] ≠ 10) ∧ z = .int .i64 j) (fun z => (s.size - (intOf z).toNat))
  case atStart => exact ⟨0, by omega, by show ∀ _, _; intro i h h0; omega, by go_num⟩
  case round =>
    obtain ⟨j, hj, hd, rfl⟩ := hrel
    by_cases hlt : j < s.size
    · cases hx : ((s[j]'hlt).toNat : Int) == 10
      · have hst : Hid (∀ i (h : i < s.size), i < j + 1 → s[i] ≠ 10) := by
          show ∀ _, _
          intro i h h0
          by_cases e : i = j
          · subst e
            intro c
            rw [c] at hx
            exact absurd hx (by decide)
          · exact hd.out i h (by omega)
        go_wp2_with fail
        go_round
        case rel => exact ⟨j + 1, by omega, hst, by go_num⟩
        case measure => simp [intOf]; omega
      · have hRF : R = false := by
          rw [← hRH.out, ← Bool.not_eq_true, plainB_iff]
          intro hh
          refine hh j hlt ?_
          have h2 := eq_of_beq hx
          have h3 : (s[j]'hlt).toNat = 10 := by omega
          exact UInt8.toNat.inj h3
        subst hRF
        go_wp2_with fail
        go_ret
        exact ⟨rfl, rfl⟩
    · have hRT : R = true := by
        rw [← hRH.out, plainB_iff]
        exact fun i h => hd.out i h (by omega)
      subst hRT
      go_wp2_with fail
      go_ret
      exact ⟨rfl, rfl⟩
end Go.Proofs.YtlabmboedjnpmaaGreatDoor
