/- The decimal text of a number, both sides: Dec; the law on it (walks). -/
import Derived.Test.YtdajhcammnlonaaDoorDecPure
import Derived.Test.YtdajhcammnlonaaDoorShelfItoa
import Derived.Test.YtdajhcammnlonaaDoorLaid
import Derived.Test.YtdajhcammnlonaaDoorData
import Derived.WalkSmall
import Derived.LaidLaws
import Derived.Lib.LaidTab
namespace Go.Proofs.YtdajhcammnlonaaDoor
open Go.RowKit
set_option linter.unusedVariables false
def decB (n : Int) : ByteArray := ⟨(Lib.itoa n).toArray⟩
theorem dec_pos {m : Nat} (h : m ≠ 0) : decB m = ⟨(decGo m []).toArray⟩ := by
  unfold decB Lib.itoa
  rw [if_neg (by omega), decGo_digits, if_neg h, List.append_nil, Int.toNat_natCast]
theorem dec_neg {m : Nat} (h : m ≠ 0) : decB (-(m : Int)) = ⟨#[45]⟩ ++ ⟨(decGo m []).toArray⟩ := by
  unfold decB Lib.itoa
  rw [if_pos (by omega), decGo_digits, if_neg h, List.append_nil]
  have e : (-(m : Int)).natAbs = m := by omega
  rw [e]
  simp [ByteArray.ext_iff]
theorem dec_zero : decB 0 = ⟨#[48]⟩ := by
  unfold decB Lib.itoa
  rw [if_neg (by omega)]
  show (⟨(Lib.decDigits 0).toArray⟩ : ByteArray) = _
  rw [Lib.decDigits, dif_pos (by omega)]
  rfl
theorem grow_below (w : World) (k : Nat) (os : Array Obj) : Below w.heap.size w (Sort.grow (w.drewN k) os) := by
  refine ⟨rfl, rfl, rfl, ?_, fun i hi => ?_⟩
  · rw [Sort.size_grow]; exact Nat.le_add_right _ _
  · show (w.heap ++ os)[i]? = _
    rw [Array.getElem?_append_left hi]
theorem TabIs.later {P : Program} {w w' : World} {nm : String} {k : IntKind} {zs : List Int} {g : Nat} (h : Lib.TabIs P w nm k zs) (hg : P.globalNamed nm = some g) (hb : Below w.heap.size w w') : Lib.TabIs P w' nm k zs := by
  have hlt : g < w.heap.size := by
    have h1 : w.var? P nm = some _ := h
    unfold World.var? at h1
    rw [hg] at h1
    by_cases c : g < w.heap.size
    · exact c
    · simp only [Option.bind_some] at h1
      rw [Array.getElem?_eq_none (by omega)] at h1
      cases h1
  exact var?_below hb hg hlt h
theorem powTab {laid : List (String × DataW Unit)} {W : World} (h : laidMet Tryd.prog laid W) (hm : ("internal/strconv.uint64pow10", (Rows.laid_internal_strconv_uint64pow10 : DataW Unit)) ∈ laid) : Lib.TabIs Tryd.prog W "internal/strconv.uint64pow10" .u64 Lib.pow10Tab := by
  obtain ⟨ps, hv, _, _⟩ := h
  obtain ⟨g', t', cs, fuel, p, h1, h2, h3, h4⟩ := LaidVars.at hv _ _ hm
  obtain rfl := Option.some.inj ((by kernel_rfl : Tryd.prog.globalNamed "internal/strconv.uint64pow10" = some 6).symm.trans h1)
  obtain rfl := Option.some.inj ((by kernel_rfl : (Tryd.prog.globals[6]?).map (·.type) = some 123).symm.trans h2)
  unfold Lib.TabIs
  rw [h3]
  have hc := Lib.cells_of_tab (k := .u64) (zs := Lib.pow10Tab) Tryd.underlying123 Tryd.underlying103 (by kernel_rfl) (by kernel_rfl) (show DataW.trod _ _ _ _ _ _ _ _ _ = some (Lib.tabData .u64 Lib.pow10Tab, p) from h4)
  rw [← hc]
theorem tmod_neg (m : Nat) : (-(m : Int)).tmod 10 = -((m % 10 : Nat) : Int) := by
  rw [Int.neg_tmod, Int.ofNat_tmod]
  rfl
theorem tdiv_neg (m : Nat) : (-(m : Int)).tdiv 10 = -((m / 10 : Nat) : Int) := by
  rw [Int.neg_tdiv, Int.ofNat_tdiv]
  rfl
set_option maxRecDepth 100000 in
set_option maxHeartbeats 1000000 in
theorem s_dec (n : Int) (w : World) (h0 : -9223372036854775808 ≤ n) (h1 : n ≤ 9223372036854775807) : Calls Tryd.prog 88 #[.int .i64 n] w fun e w' => e = .returned (.string (decB n)) ∧ Below w.heap.size w w' := by
  have kc := conv_byte
  have ksz : ∀ z, (strOfNums [z]).size = 1 := fun z => strOfNums_size _
  by_cases hz : n = 0
  · subst hz
    rw [dec_zero]
    go_enter Tryd.func88, Tryd.ntmps88
    go_wp2
    go_ret
    exact ⟨rfl, Below.refl _ _⟩
  by_cases hp : 0 < n
  · obtain ⟨m0, rfl⟩ := Int.eq_ofNat_of_zero_le (show 0 ≤ n by omega)
    have hm0 : m0 ≠ 0 := by omega
    obtain ⟨R, hR⟩ : ∃ R, decGo m0 [] = R := ⟨_, rfl⟩
    rw [dec_pos hm0, hR]
    have hl : Hid (R.length ≤ 19) := by
      show _ ≤ _
      have := decGo_len 19 m0 [] (by omega)
      rw [hR] at this
      simpa using this
    have hRH := Lib.hid hR
    clear hR
    go_enter Tryd.func88, Tryd.ntmps88
    go_wp2
    go_loopw [0, 3] (fun x v wr => ∃ (m : Nat) (l : List UInt8), (m : Int) ≤ 9223372036854775807 ∧ l.length ≤ 19 ∧ Hid (decGo m l = R) ∧ x = .int .i64 m ∧ v = .string ⟨l.toArray⟩ ∧ Below w.heap.size w wr) (fun x _ _ => (intOf x).toNat)
    case atStart => exact ⟨m0, [], by omega, by simp, hRH.out, rfl, rfl, Below.refl _ _⟩
    case round =>
      obtain ⟨m, l, hm, hll, hd, rfl, rfl, hb⟩ := hrel
      by_cases h0 : m = 0
      · subst h0
        have hRe : Hid (l = R) := by show _ = _; rw [← hd.out, decGo_zero]
        go_wp2
        go_ret
        exact ⟨ret_str (by rw [← hRe.out]), hb⟩
      · have hst : Hid (decGo (m / 10) (UInt8.ofNat (48 + m % 10) :: l) = R) := by show _ = _; rw [← decGo_step h0]; exact hd.out
        have hmp : 0 < m := by omega
        go_wp2
        go_roundw
        case rel => exact ⟨m / 10, UInt8.ofNat (48 + m % 10) :: l, by omega, Nat.le_trans (hst.out ▸ decGo_ge _ _) hl.out, hst, by go_num, congrArg Value.string (dig_cons m l), hb.alloc hb.size _⟩
        case measure => simp [intOf]; omega
  · obtain ⟨m0, hm⟩ := Int.eq_ofNat_of_zero_le (show 0 ≤ -n by omega)
    obtain rfl : n = -(m0 : Int) := by omega
    have hm0 : m0 ≠ 0 := by omega
    obtain ⟨R, hR⟩ : ∃ R, decGo m0 [] = R := ⟨_, rfl⟩
    rw [dec_neg hm0, hR]
    have hl : Hid (R.length ≤ 19) := by
      show _ ≤ _
      have := decGo_len 19 m0 [] (by omega)
      rw [hR] at this
      simpa using this
    have hRH := Lib.hid hR
    clear hR hm
    obtain ⟨z, hzz⟩ : ∃ z : Int, -(m0 : Int) = z := ⟨_, rfl⟩
    rw [hzz] at h0 h1 hp hz ⊢
    have hzzH := Lib.hid hzz
    have hzn : z < 0 := by omega
    have hza : z.natAbs = m0 := by omega
    have hst0 : Hid (decGo z.natAbs [] = R) := by show _ = _; rw [hza]; exact hRH.out
    clear hzz hza
    go_enter Tryd.func88, Tryd.ntmps88
    go_wp2
    go_loopw [0, 3] (fun x v wr => ∃ (y : Int) (l : List UInt8), (-9223372036854775808 ≤ y ∧ y ≤ 0) ∧ l.length ≤ 19 ∧ Hid (decGo y.natAbs l = R) ∧ x = .int .i64 y ∧ v = .string ⟨l.toArray⟩ ∧ Below w.heap.size w wr) (fun x _ _ => (intOf x).natAbs)
    case atStart => exact ⟨z, [], by omega, by simp, hst0, rfl, rfl, Below.refl _ _⟩
    case round =>
      obtain ⟨y, l, hy, hll, hd, rfl, rfl, hb⟩ := hrel
      by_cases h0 : y = 0
      · subst h0
        have hRe : Hid (l = R) := by show _ = _; rw [← hd.out]; exact (decGo_zero l).symm
        go_wp2
        go_ret
        exact ⟨ret_str (by rw [← hRe.out]), hb⟩
      · obtain ⟨m, hm⟩ := Int.eq_ofNat_of_zero_le (show 0 ≤ -y by omega)
        have hmn : m ≠ 0 := by omega
        have hya : y.natAbs = m := by omega
        have hst : Hid (decGo (m / 10) (UInt8.ofNat (48 + m % 10) :: l) = R) := by show _ = _; rw [← decGo_step hmn, ← hya]; exact hd.out
        have ht : y.tmod 10 = -((m % 10 : Nat) : Int) := by rw [← tmod_neg]; congr 1; omega
        have hq : y.tdiv 10 = -((m / 10 : Nat) : Int) := by rw [← tdiv_neg]; congr 1; omega
        obtain ⟨r, hr⟩ : ∃ r, m % 10 = r := ⟨_, rfl⟩
        obtain ⟨q, hq2⟩ : ∃ q : Int, -((m / 10 : Nat) : Int) = q := ⟨_, rfl⟩
        rw [hr] at ht hst
        rw [hq2] at hq
        have hqr : -9223372036854775808 ≤ q ∧ q ≤ 0 := by omega
        have hqa : Hid (q.natAbs = m / 10) := by show _ = _; omega
        have hql : Hid (q.natAbs < y.natAbs) := by show _ < _; omega
        have hr9 : r ≤ 9 := by omega
        have hyn : (y == 0) = false := by simpa using h0
        have hyH := Lib.hid h0
        clear hm hya hr hq2 hmn h0
        by_cases hr0 : r = 0
        · subst hr0
          have ht : y.tmod 10 = 0 := ht
          go_wp2
          go_roundw
          case rel => exact ⟨q, UInt8.ofNat (48 + 0) :: l, hqr, Nat.le_trans (hst.out ▸ decGo_ge _ _) hl.out, by show _ = _; rw [hqa.out]; exact hst.out, by go_num, congrArg Value.string (dig_one 0 l), hb.alloc hb.size _⟩
          case measure => simp [intOf]; exact hql.out
        · have hrp : (0 : Int) < (r : Int) := by omega
          have hrp2 : 0 < r := by omega
          have hrd : decide (-(r : Int) < 0) = true := decide_eq_true (by omega)
          go_wp2
          go_roundw
          case rel => exact ⟨q, UInt8.ofNat (48 + r) :: l, hqr, Nat.le_trans (hst.out ▸ decGo_ge _ _) hl.out, by show _ = _; rw [hqa.out]; exact hst.out, by go_num, congrArg Value.string (dig_one r l), hb.alloc hb.size _⟩
          case measure => simp [intOf]; exact hql.out
theorem i_dec (n : Int) (w : World) (h0 : -9223372036854775808 ≤ n) (h1 : n ≤ 9223372036854775807) (htab : Lib.TabIs Tryd.prog w "internal/strconv.uint64pow10" .u64 Lib.pow10Tab) : Calls Tryd.prog 39 #[.int .i64 n] w fun e w' => e = .returned (.string (decB n)) ∧ Below w.heap.size w w' := by
  have hH := Lib.hid htab
  clear htab
  go_enter Tryd.func39, Tryd.ntmps39
  go_wp2_with fail
  refine (sh_strconv_Itoa n h0 h1 _ hH.out).mono ?_
  rintro e w1 ⟨rfl, k, os, rfl⟩
  have hb := Lib.hid (grow_below w k os)
  go_wp2_with fail
  go_ret
  exact ⟨rfl, hb.out⟩
end Go.Proofs.YtdajhcammnlonaaDoor
