/- ReadDec of the program; the law on ReadDec (walks). -/
import Derived.Test.YtdajhcammnlonaaDoorReadDec
namespace Go.Proofs.YtdajhcammnlonaaDoor
open Go.RowKit
set_option linter.unusedVariables false
/-- what the two errors of the library stand for -/
def ErrVars (w : World) : Prop := (∃ tp p, w.var? Tryd.prog "strconv.ErrSyntax" = some #[.iface tp p]) ∧ (∃ tp p, w.var? Tryd.prog "strconv.ErrRange" = some #[.iface tp p])
theorem var_later {P : Program} {w w' : World} {nm : String} {cs : Array Value} {g : Nat} (h : w.var? P nm = some cs) (hg : P.globalNamed nm = some g) (hb : Below w.heap.size w w') : w'.var? P nm = some cs := by
  have hlt : g < w.heap.size := by
    have h1 := h
    unfold World.var? at h1
    rw [hg] at h1
    by_cases c : g < w.heap.size
    · exact c
    · simp only [Option.bind_some] at h1
      rw [Array.getElem?_eq_none (by omega)] at h1
      cases h1
  exact var?_below hb hg hlt h
theorem ErrVars.later {w w' : World} (h : ErrVars w) (hb : Below w.heap.size w w') : ErrVars w' := by
  obtain ⟨⟨t1, p1, h1⟩, ⟨t2, p2, h2⟩⟩ := h
  exact ⟨⟨t1, p1, var_later h1 (by kernel_rfl : Tryd.prog.globalNamed "strconv.ErrSyntax" = some 4) hb⟩, ⟨t2, p2, var_later h2 (by kernel_rfl : Tryd.prog.globalNamed "strconv.ErrRange" = some 5) hb⟩⟩
theorem read_ok {l : List UInt8} {v : Int} (h : Lib.atoiAll l = .ok v) : readDec l = if Lib.itoa v = l ∧ trimLen l ≤ 9 then (v, true) else (0, false) := by
  rw [← readDec_eq, readDecI, h]
theorem read_bad {l : List UInt8} (h : ∀ v, Lib.atoiAll l ≠ .ok v) : readDec l = (0, false) := by
  rw [← readDec_eq, readDecI]
  split
  · rename_i v hv
    exact absurd hv (h v)
  · rfl
set_option maxRecDepth 100000 in
set_option maxHeartbeats 2000000 in
theorem i_readDec (s : ByteArray) (w : World) (hs : s.size ≤ 16777216) (hv : ErrVars w) (htab : Lib.TabIs Tryd.prog w "internal/strconv.uint64pow10" .u64 Lib.pow10Tab) : Calls Tryd.prog 32 #[.string s] w (RetRead w s) := by
  have hvH := Lib.hid hv
  have htH := Lib.hid htab
  clear hv htab
  rcases hat : Lib.atoiAll s.data.toList with v | _ | _
  · have hvb := Lib.atoiAll_bounds hat
    have hro := read_ok hat
    have hatH := Lib.hid hat
    obtain ⟨T, hT⟩ : ∃ T : ByteArray, ⟨(Lib.trimPrefix s.data.toList [45]).toArray⟩ = T := ⟨_, rfl⟩
    have hTs : T.size = trimLen s.data.toList := by rw [← hT]; rfl
    have hTb : T.size ≤ 16777216 := by
      rw [hTs]
      have h1 : trimLen s.data.toList ≤ s.data.toList.length := by
        unfold trimLen Lib.trimPrefix
        split
        · simp
        · exact Nat.le_refl _
      have h2 : s.data.toList.length = s.size := by simp
      omega
    rw [← hTs] at hro
    obtain ⟨D, hD⟩ : ∃ D, decB v = D := ⟨_, rfl⟩
    have hc := dec_cmp v s
    rw [hD] at hc
    have hTH := Lib.hid hT
    have hDH := Lib.hid hD
    clear hT hD hat hTs
    cases hB : (Lib.itoa v == s.data.toList)
    · have hr : readDec s.data.toList = (0, false) := by
        rw [hro, if_neg]
        rintro ⟨h1, _⟩
        rw [h1] at hB
        simp at hB
      rw [hB] at hc
      have hrH := Lib.hid hr
      clear hro hB hr
      go_enter Tryd.func32, Tryd.ntmps32
      go_wp2_with fail
      refine (sh_strconv_Atoi_ok s (by omega) v hatH.out _).mono ?_
      rintro e w1 ⟨rfl, hw⟩
      have hb1 : Hid (Below w.heap.size w w1) := by
        rcases hw with rfl | ⟨t, rfl⟩
        · exact Below.refl _ _
        · exact Lib.bytesWorld_below _ _ _
      clear hw
      go_wp2_with fail
      refine (i_dec v _ hvb.1 hvb.2 (TabIs.later htH.out (by kernel_rfl : Tryd.prog.globalNamed "internal/strconv.uint64pow10" = some 6) hb1.out)).mono ?_
      rintro e w2 ⟨rfl, hb2⟩
      rw [hDH.out]
      have hb2 := Lib.hid (hb1.out.trans (hb2.mono hb1.out.size))
      go_wp2_with fail
      go_ret2
      exact RetRead.no hrH.out hb2.out
    · have hBe : Lib.itoa v = s.data.toList := by simpa using hB
      rw [hB] at hc
      by_cases h9 : T.size ≤ 9
      · have hr : readDec s.data.toList = (v, true) := by rw [hro, if_pos ⟨hBe, h9⟩]
        have hrH := Lib.hid hr
        clear hro hB hr hBe
        go_enter Tryd.func32, Tryd.ntmps32
        go_wp2_with fail
        refine (sh_strconv_Atoi_ok s (by omega) v hatH.out _).mono ?_
        rintro e w1 ⟨rfl, hw⟩
        have hb1 : Hid (Below w.heap.size w w1) := by
          rcases hw with rfl | ⟨t, rfl⟩
          · exact Below.refl _ _
          · exact Lib.bytesWorld_below _ _ _
        clear hw
        go_wp2_with fail
        refine (i_dec v _ hvb.1 hvb.2 (TabIs.later htH.out (by kernel_rfl : Tryd.prog.globalNamed "internal/strconv.uint64pow10" = some 6) hb1.out)).mono ?_
        rintro e w2 ⟨rfl, hb2⟩
        rw [hDH.out]
        have hb2 := Lib.hid (hb1.out.trans (hb2.mono hb1.out.size))
        go_wp2_with fail
        refine (sh_strings_TrimPrefix s _ _).mono ?_
        rintro e w3 ⟨rfl, rfl⟩
        rw [show (Lib.trimPrefix s.data.toList (⟨#[45]⟩ : ByteArray).data.toList) = Lib.trimPrefix s.data.toList [45] from rfl, hTH.out]
        go_wp2_with fail
        go_ret2
        exact RetRead.yes hrH.out hb2.out
      · have hr : readDec s.data.toList = (0, false) := by rw [hro, if_neg (fun q => h9 q.2)]
        have hrH := Lib.hid hr
        clear hro hB hr hBe
        go_enter Tryd.func32, Tryd.ntmps32
        go_wp2_with fail
        refine (sh_strconv_Atoi_ok s (by omega) v hatH.out _).mono ?_
        rintro e w1 ⟨rfl, hw⟩
        have hb1 : Hid (Below w.heap.size w w1) := by
          rcases hw with rfl | ⟨t, rfl⟩
          · exact Below.refl _ _
          · exact Lib.bytesWorld_below _ _ _
        clear hw
        go_wp2_with fail
        refine (i_dec v _ hvb.1 hvb.2 (TabIs.later htH.out (by kernel_rfl : Tryd.prog.globalNamed "internal/strconv.uint64pow10" = some 6) hb1.out)).mono ?_
        rintro e w2 ⟨rfl, hb2⟩
        rw [hDH.out]
        have hb2 := Lib.hid (hb1.out.trans (hb2.mono hb1.out.size))
        go_wp2_with fail
        refine (sh_strings_TrimPrefix s _ _).mono ?_
        rintro e w3 ⟨rfl, rfl⟩
        rw [show (Lib.trimPrefix s.data.toList (⟨#[45]⟩ : ByteArray).data.toList) = Lib.trimPrefix s.data.toList [45] from rfl, hTH.out]
        go_wp2_with fail
        go_ret2
        exact RetRead.no hrH.out hb2.out
  · have hrH := Lib.hid (read_bad (l := s.data.toList) (by intro v; rw [hat]; intro q; cases q))
    obtain ⟨⟨tp, p, hv1⟩, _⟩ := hvH.out
    have hatH := Lib.hid hat
    have hv1 := Lib.hid hv1
    clear hat
    go_enter Tryd.func32, Tryd.ntmps32
    go_wp2_with fail
    refine (sh_strconv_Atoi_syntax_var s (by omega) hatH.out tp p _ hv1.out).mono ?_
    rintro e w1 ⟨N, rfl, _, _, hb1⟩
    have hb1 := Lib.hid hb1
    go_wp2_with fail
    go_ret2
    exact RetRead.no hrH.out hb1.out
  · have hrH := Lib.hid (read_bad (l := s.data.toList) (by intro v; rw [hat]; intro q; cases q))
    obtain ⟨_, ⟨tp, p, hv1⟩⟩ := hvH.out
    have hatH := Lib.hid hat
    have hv1 := Lib.hid hv1
    have hsat := Lib.atoiSat_bounds s.data.toList
    obtain ⟨z, hz⟩ : ∃ z, Lib.atoiSat s.data.toList = z := ⟨_, rfl⟩
    rw [hz] at hsat
    have hzH := Lib.hid hz
    clear hat hz
    go_enter Tryd.func32, Tryd.ntmps32
    go_wp2_with fail
    refine (sh_strconv_Atoi_range_var s (by omega) hatH.out tp p _ hv1.out).mono ?_
    rintro e w1 ⟨N, rfl, _, _, hb1⟩
    rw [hzH.out]
    have hb1 := Lib.hid hb1
    go_wp2_with fail
    go_ret2
    exact RetRead.no hrH.out hb1.out
set_option maxRecDepth 100000 in
set_option maxHeartbeats 1000000 in
theorem l_ReadDec (s : ByteArray) (w : World) (t2 : Lib.TabIs Tryd.prog w "internal/strconv.uint64pow10" .u64 Lib.pow10Tab) (hv : ErrVars w) (hsz : s.size ≤ maxLen) : Calls Tryd.prog 5 #[.string s] w fun e w' => e = .returned (.bool true) ∧ Below w.heap.size w w' := by
  have hvH := Lib.hid hv
  have htH := Lib.hid t2
  clear hv t2
  unfold maxLen at hsz
  by_cases hb : 1048576 < s.size
  · go_enter Tryd.func5, Tryd.ntmps5
    go_wp2_with fail
    go_ret
    exact ⟨rfl, Below.refl _ _⟩
  · have hs : s.size ≤ 16777216 := by omega
    have hrb : ∃ n b, readDec s.data.toList = (n, b) := ⟨_, _, rfl⟩
    obtain ⟨n, b, hr⟩ := hrb
    have hr := Lib.hid hr
    go_enter Tryd.func5, Tryd.ntmps5
    go_wp2_with fail
    refine (s_readDec s _ hs).mono ?_
    rintro e w1 ⟨rfl, hb1⟩
    rw [hr.out]
    have hb1 := Lib.hid hb1
    go_wp2_with fail
    refine (i_readDec s _ hs (hvH.out.later hb1.out) (TabIs.later htH.out (by kernel_rfl : Tryd.prog.globalNamed "internal/strconv.uint64pow10" = some 6) hb1.out)).mono ?_
    rintro e w2 ⟨rfl, hb2⟩
    rw [hr.out]
    have hb2 := Lib.hid (hb1.out.trans (hb2.mono hb1.out.size))
    go_wp2_with fail
    go_ret
    exact ⟨rfl, hb2.out⟩
end Go.Proofs.YtdajhcammnlonaaDoor
