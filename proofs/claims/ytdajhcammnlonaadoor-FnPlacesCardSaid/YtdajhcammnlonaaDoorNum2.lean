/- What Fixed returns, the reference's and the program's. -/
import Derived.Test.YtdajhcammnlonaaDoorNum
import Derived.Test.YtdajhcammnlonaaDoorMem
namespace Go.Proofs.YtdajhcammnlonaaDoor
open Go.RowKit
set_option linter.unusedVariables false

theorem str_cons (q : Nat) (l : List UInt8) : strOfNums [((q : Int) % 256)] ++ (⟨l.toArray⟩ : ByteArray) = ⟨(UInt8.ofNat (q % 256) :: l).toArray⟩ := by
  have e : ((q : Int) % 256).toNat = q % 256 := by omega
  simp [strOfNums, e, ByteArray.ext_iff]
theorem conv_one (W : World) (z : Int) : (convert 22 9 (.slice (some ⟨W.heap.size, 0, none⟩) 1 1)).run Tryd.prog (W.alloc (.cells #[.int .u8 z] 5)) = .ok (.string (strOfNums [z])) (W.alloc (.cells #[.int .u8 z] 5)) := by
  refine run_convert_bytes_arg _ 22 5 Tryd.underlying22 Tryd.underlying5 _ 0 1 1 [z] rfl ?_ 9 Tryd.underlying9
  intro i hi
  have hi0 : i = 0 := by omega
  subst hi0
  rw [World.cell?_alloc_new]
  rfl
theorem pow_facts (m : Nat) (h : m ≤ 7) : ∃ P : Int, P = 256 ^ m ∧ P ≤ 72057594037927936 ∧ wrap64 (2 ^ (8 * m)) = P := by
  have e : (2 : Int) ^ (8 * m) = 256 ^ m := by
    rw [Int.pow_mul]; rfl
  have hle := pow256_le h
  have h7 : (256 : Int) ^ 7 = 72057594037927936 := by decide
  have hpos : (0 : Int) < 256 ^ m := Int.pow_pos (by omega)
  refine ⟨256 ^ m, rfl, by omega, ?_⟩
  rw [e]
  exact IntWalk.wrap64_in _ (by omega)
theorem info_u8 : (Tryd.prog.info? 5).map (fun i => (i.zero, i.size, i.bytes)) = some (some (.int .u8 0), 1, 1) := by kernel_rfl
def FixAt (n0 m r q : Nat) (cs : Array Value) : Prop := q = n0 / 256 ^ (m - r) ∧ cs.size = m ∧ ∀ t, r ≤ t → t < m → cs[t]? = some (.int .u8 ((n0 / 256 ^ (m - 1 - t) % 256 : Nat) : Int))
theorem FixAt.step {n0 m r q : Nat} {cs : Array Value} (h : FixAt n0 m (r + 1) q cs) (hr : r < m) : FixAt n0 m r (q / 256) (cs.setIfInBounds r (.int .u8 ((q : Int) % 256))) := by
  obtain ⟨h1, h2, h3⟩ := h
  refine ⟨?_, by simpa using h2, fun t ht htm => ?_⟩
  · rw [h1, Nat.div_div_eq_div_mul, ← Nat.pow_succ]
    have e : (m - (r + 1)).succ = m - r := by omega
    rw [e]
  · rw [Array.getElem?_setIfInBounds]
    by_cases e : r = t
    · subst e
      rw [if_pos rfl, if_pos (by omega), h1]
      have e2 : m - (r + 1) = m - 1 - r := by omega
      rw [e2]
      rfl
    · rw [if_neg e]
      exact h3 t (by omega) htm
set_option maxRecDepth 100000 in
set_option maxHeartbeats 400000 in
theorem i_fixed (n k : Int) (w : World) (hn : n ≤ 9223372036854775807) : Calls Tryd.prog 37 #[.int .i64 n, .int .i64 k] w fun e w' => e = .returned (.string (fixedB n k)) ∧ Below w.heap.size w w' := by
  by_cases h1 : inB k 1 7 = true
  · have hr := inB_true.1 h1
    obtain ⟨m, rfl⟩ := Int.eq_ofNat_of_zero_le (show 0 ≤ k by omega)
    by_cases h2 : n < 0
    · have hf : Hid (fixedB n m = ⟨#[]⟩) := by show fixedB n m = _; rw [fixedB, fixedOk, decide_eq_false (by omega), Bool.and_false, Bool.false_and]; rfl
      go_enter Tryd.func37, Tryd.ntmps37
      go_wp2_with (go_at_call 93; refine (i_isWidth _ _).mono ?_; rintro e w' ⟨rfl, rfl⟩)
      go_ret
      exact ⟨ret_str hf.out.symm, Below.refl _ _⟩
    · obtain ⟨n0, rfl⟩ := Int.eq_ofNat_of_zero_le (show 0 ≤ n by omega)
      obtain ⟨P, hP1, hP2, hw⟩ := pow_facts m (by omega)
      have hP1 := Lib.hid hP1
      by_cases hlt : (n0 : Int) < P
      · have hok : Hid (fixedB n0 m = ⟨(fx m n0).toArray⟩) := by
          show fixedB n0 m = _
          have hp : (n0 : Int) < 256 ^ m := hP1.out ▸ hlt
          rw [fixedB, fixedOk, h1, decide_eq_true (show (0 : Int) ≤ n0 by omega), Int.toNat_natCast, decide_eq_true hp]
          rfl
        obtain ⟨i0, hi, hz0, hz1, hz2⟩ := info_parts info_u8
        have hmk := mk_slice (P := Tryd.prog) 22 5 i0 (.int .u8 0) Tryd.underlying22 hi hz0 m (by rw [hz2]; omega) (by omega)
        rw [hz1] at hmk
        clear hi hz0 hz1 hz2
        go_enter Tryd.func37, Tryd.ntmps37
        go_wp2_with (go_at_call 93; refine (i_isWidth _ _).mono ?_; rintro e w' ⟨rfl, rfl⟩)
        clear hmk hw
        go_loopw [0, 6] (fun x i wr => ∃ (r q : Nat) (cs : Array Value), (r ≤ m) ∧ Hid (FixAt n0 m r q cs) ∧ x = .int .i64 q ∧ i = .int .i64 ((r : Int) - 1) ∧ Has wr w.heap.size 5 cs ∧ Below w.heap.size w wr) (fun _ i _ => ((intOf i) + 1).toNat)
        case atStart => exact ⟨m, n0, _, by omega, ⟨by simp, by simp [size_madeCells], fun t h1 h2 => by omega⟩, rfl, by go_num, Has.made _ _ _, (Below.refl _ _).alloc (Nat.le_refl _) _⟩
        case round =>
          obtain ⟨r, q, cs, hj, hd, rfl, rfl, hh, hb⟩ := hrel
          have hq : q ≤ n0 := by rw [hd.out.1]; exact Nat.div_le_self _ _
          by_cases h0 : r = 0
          · subst h0
            have hcv : (convert 22 9 (.slice (some ⟨w.heap.size, 0, none⟩) m m)).run Tryd.prog wr = .ok (.string (strOfNums ((fx m n0).map fun b => (b.toNat : Int)))) wr := by
              refine run_convert_bytes_arg _ 22 5 Tryd.underlying22 Tryd.underlying5 _ 0 m m _ (by simp [fx_length]) ?_ 9 Tryd.underlying9
              intro t ht
              rw [Nat.zero_add, hh.cell, hd.out.2.2 t (by omega) ht]
              have := fx_get m n0 t ht
              simp only [List.getD_eq_getElem?_getD, List.getElem?_map, this, Option.map_some, Option.getD_some]
              have e : (UInt8.ofNat (n0 / 256 ^ (m - 1 - t) % 256)).toNat = n0 / 256 ^ (m - 1 - t) % 256 := by
                rw [UInt8.toNat_ofNat']; omega
              rw [e]
            have hstr : strOfNums ((fx m n0).map fun b => (b.toNat : Int)) = ⟨(fx m n0).toArray⟩ := by
              simp [strOfNums, Function.comp_def]
            rw [hstr, ← hok.out] at hcv
            go_wp2
            go_ret
            exact ⟨rfl, hb⟩
          · obtain ⟨r, rfl⟩ : ∃ r', r = r' + 1 := ⟨r - 1, by omega⟩
            have e1 : ((r + 1 : Nat) : Int) - 1 = r := by omega
            rw [e1]
            have hrm : r < m := by omega
            have hc : ∃ v, wr.cell? ⟨w.heap.size, r, none⟩ = some v := by
              rw [hh.cell]
              exact ⟨_, Array.getElem?_eq_getElem (by rw [hd.out.2.1]; exact hrm)⟩
            obtain ⟨v, hc⟩ := hc
            have hfz := hh.free r
            go_wp2
            go_roundw
            case rel => exact ⟨r, q / 256, _, by omega, hd.out.step hrm, by go_num, by go_num, hh.set r _, hb.setCell (Nat.le_refl _) _⟩
            case measure => simp [intOf]
      · have hf : Hid (fixedB n0 m = ⟨#[]⟩) := by
          show fixedB n0 m = _
          have hp : ¬ (n0 : Int) < 256 ^ m := hP1.out ▸ hlt
          rw [fixedB, fixedOk, Int.toNat_natCast, decide_eq_false hp, Bool.and_false]
          rfl
        go_enter Tryd.func37, Tryd.ntmps37
        go_wp2_with (go_at_call 93; refine (i_isWidth _ _).mono ?_; rintro e w' ⟨rfl, rfl⟩)
        go_ret
        exact ⟨ret_str hf.out.symm, Below.refl _ _⟩
  · rw [Bool.not_eq_true] at h1
    have hf : Hid (fixedB n k = ⟨#[]⟩) := by show fixedB n k = _; rw [fixedB, fixedOk, h1]; rfl
    go_enter Tryd.func37, Tryd.ntmps37
    go_wp2_with (go_at_call 93; refine (i_isWidth _ _).mono ?_; rintro e w' ⟨rfl, rfl⟩)
    go_ret
    exact ⟨ret_str hf.out.symm, Below.refl _ _⟩
end Go.Proofs.YtdajhcammnlonaaDoor
