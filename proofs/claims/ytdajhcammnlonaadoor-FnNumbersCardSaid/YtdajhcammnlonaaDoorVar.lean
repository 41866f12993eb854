/- What Var returns, the reference's and the program's. -/
import Derived.Test.YtdajhcammnlonaaDoorNum
import Derived.Test.YtdajhcammnlonaaDoorOwn
namespace Go.Proofs.YtdajhcammnlonaaDoor
open Go.RowKit
set_option linter.unusedVariables false
theorem u8_of (z : Int) (h0 : 0 ≤ z) (h : z < 256) : z = ((UInt8.ofNat z.toNat).toNat : Int) := by
  rw [UInt8.toNat_ofNat']
  omega
theorem and127 (q : Nat) (h : q ≤ 562949953421311) : bits .and .i64 (q : Int) 127 = (q : Int) % 128 := by
  have e1 : (BitVec.ofInt 64 (q : Int)).toNat = q := by
    rw [BitVec.ofInt_natCast, BitVec.toNat_ofNat]; exact Nat.mod_eq_of_lt (by omega)
  have e2 : (BitVec.ofInt 64 127).toNat = 127 := by decide
  show IntKind.i64.wrap ((BitVec.ofInt 64 (q : Int) &&& BitVec.ofInt 64 127).toNat : Int) = _
  rw [BitVec.toNat_and, e1, e2, nat_mask7]
  exact IntWalk.i64_in _ (by omega)
theorem or128 (r : Int) (h0 : 0 ≤ r) (h : r < 128) : bits .or .i64 r 128 = 128 + r := by
  obtain ⟨n, rfl⟩ := Int.eq_ofNat_of_zero_le h0
  have g : ∀ b : Fin 128, bits .or .i64 ((b.val : Nat) : Int) 128 = 128 + ((b.val : Nat) : Int) := by decide +kernel
  exact g ⟨n, by omega⟩
set_option maxRecDepth 100000 in
set_option maxHeartbeats 400000 in
theorem s_var (n : Int) (w : World) : Calls Tryd.prog 96 #[.int .i64 n] w fun e w' => e = .returned (.string (varB n)) ∧ Below w.heap.size w w' := by
  by_cases h1 : inB n 0 562949953421311 = true
  · have hr := inB_true.1 h1
    obtain ⟨n0, rfl⟩ := Int.eq_ofNat_of_zero_le hr.1
    have hf : Hid (varB n0 = ⟨(vr n0).toArray⟩) := by show varB n0 = _; rw [varB, if_pos h1]; rfl
    have hv7 := vr_length7 n0 (by omega)
    go_enter Tryd.func96, Tryd.ntmps96
    go_wp2_with (go_at_call 58; refine (s_l1In _ _ _ _).mono ?_; rintro e w' ⟨rfl, rfl⟩)
    clear h1
    go_loopw [0, 3] (fun x v wr => ∃ (q : Nat) (l : List UInt8), q ≤ n0 ∧ Hid (l ++ vr q = vr n0) ∧ OwnB wr w.heap.size v l ∧ x = .int .i64 q ∧ Below w.heap.size w wr) (fun x _ _ => (intOf x).toNat)
    case atStart => exact ⟨n0, [], Nat.le_refl _, rfl, OwnB.start w (Nat.le_refl _), rfl, (Below.refl _ _).alloc (Nat.le_refl _) _⟩
    case round =>
      rename_i v0 _
      obtain ⟨q, l, hq, hd, hown, rfl, hb⟩ := hrel
      have hl : l.length ≤ 7 := by
        have := congrArg List.length hd.out
        rw [List.length_append] at this
        omega
      by_cases hlt : 128 ≤ q
      · have hst : Hid ((l ++ [UInt8.ofNat (128 + (q : Int) % 128).toNat]) ++ vr (q / 128) = vr n0) := by
          show _ = _
          rw [← hd.out, vr_big (show ¬ q < 128 by omega), List.append_assoc]
          rfl
        have hz := Lib.hid (u8_of (128 + (q : Int) % 128) (by omega) (by omega))
        go_wp2_with (at_builtin; refine app_bytes (by rfl) _ _ (by rfl) w.heap.size _ l (by rfl) (hown.alloc _) _ 1 1 [UInt8.ofNat (128 + (q : Int) % 128).toNat] (by rfl) rfl (one_newz _ _ _ hz.out _) (by omega) (by have := hb.size; simp; omega) ?_; intro v' w' hown' hb')
        go_roundw
        case rel => exact ⟨q / 128, _, by omega, hst, hown', by go_num, (hb.alloc hb.size _).trans hb'⟩
        case measure => simp [intOf]; omega
      · have hst : Hid (l ++ [UInt8.ofNat (q : Int).toNat] = vr n0) := by
          show _ = _
          rw [← hd.out, vr_small (show q < 128 by omega)]
          rfl
        have hz := Lib.hid (u8_of (q : Int) (by omega) (by omega))
        go_wp2_with (at_builtin; refine app_bytes (by rfl) _ _ (by rfl) w.heap.size _ l (by rfl) (hown.alloc _) _ 1 1 [UInt8.ofNat (q : Int).toNat] (by rfl) rfl (one_newz _ _ _ hz.out _) (by omega) (by have := hb.size; simp; omega) ?_; intro v' w' hown' hb'; have hcv := conv_own hown'; rw [hst.out, ← hf.out] at hcv)
        go_ret
        exact ⟨rfl, (hb.alloc hb.size _).trans hb'⟩
  · rw [Bool.not_eq_true] at h1
    have hf : Hid (varB n = ⟨#[]⟩) := by show varB n = _; rw [varB, h1]; rfl
    go_enter Tryd.func96, Tryd.ntmps96
    go_wp2_with (go_at_call 58; refine (s_l1In _ _ _ _).mono ?_; rintro e w' ⟨rfl, rfl⟩)
    go_ret
    exact ⟨ret_str hf.out.symm, Below.refl _ _⟩
set_option maxRecDepth 100000 in
set_option maxHeartbeats 400000 in
theorem i_var (n : Int) (w : World) : Calls Tryd.prog 35 #[.int .i64 n] w fun e w' => e = .returned (.string (varB n)) ∧ Below w.heap.size w w' := by
  by_cases h1 : inB n 0 562949953421311 = true
  · have hr := inB_true.1 h1
    obtain ⟨n0, rfl⟩ := Int.eq_ofNat_of_zero_le hr.1
    have hf : Hid (varB n0 = ⟨(vr n0).toArray⟩) := by show varB n0 = _; rw [varB, if_pos h1]; rfl
    have hv7 := vr_length7 n0 (by omega)
    go_enter Tryd.func35, Tryd.ntmps35
    go_wp2_with (go_at_call 62; refine (i_within _ _ _ _).mono ?_; rintro e w' ⟨rfl, rfl⟩)
    clear h1
    go_loopw [0, 3] (fun x v wr => ∃ (q : Nat) (l : List UInt8), q ≤ n0 ∧ Hid (l ++ vr q = vr n0) ∧ OwnB wr w.heap.size v l ∧ x = .int .i64 q ∧ Below w.heap.size w wr) (fun x _ _ => (intOf x).toNat)
    case atStart => exact ⟨n0, [], Nat.le_refl _, rfl, OwnB.start w (Nat.le_refl _), rfl, (Below.refl _ _).alloc (Nat.le_refl _) _⟩
    case round =>
      rename_i v0 _
      obtain ⟨q, l, hq, hd, hown, rfl, hb⟩ := hrel
      have hl : l.length ≤ 7 := by
        have := congrArg List.length hd.out
        rw [List.length_append] at this
        omega
      by_cases hlt : 128 ≤ q
      · have hst : Hid ((l ++ [UInt8.ofNat (128 + (q : Int) % 128).toNat]) ++ vr (q / 128) = vr n0) := by
          show _ = _
          rw [← hd.out, vr_big (show ¬ q < 128 by omega), List.append_assoc]
          rfl
        have hz := Lib.hid (u8_of (128 + (q : Int) % 128) (by omega) (by omega))
        have hA := and127 q (by omega)
        have hO := or128 ((q : Int) % 128) (by omega) (by omega)
        go_wp2_with (at_builtin; refine app_bytes (by rfl) _ _ (by rfl) w.heap.size _ l (by rfl) (hown.alloc _) _ 1 1 [UInt8.ofNat (128 + (q : Int) % 128).toNat] (by rfl) rfl (one_newz _ _ _ hz.out _) (by omega) (by have := hb.size; simp; omega) ?_; intro v' w' hown' hb')
        go_roundw
        case rel => exact ⟨q / 128, _, by omega, hst, hown', by go_num, (hb.alloc hb.size _).trans hb'⟩
        case measure => simp [intOf]; omega
      · have hst : Hid (l ++ [UInt8.ofNat (q : Int).toNat] = vr n0) := by
          show _ = _
          rw [← hd.out, vr_small (show q < 128 by omega)]
          rfl
        have hz := Lib.hid (u8_of (q : Int) (by omega) (by omega))
        go_wp2_with (at_builtin; refine app_bytes (by rfl) _ _ (by rfl) w.heap.size _ l (by rfl) (hown.alloc _) _ 1 1 [UInt8.ofNat (q : Int).toNat] (by rfl) rfl (one_newz _ _ _ hz.out _) (by omega) (by have := hb.size; simp; omega) ?_; intro v' w' hown' hb'; have hcv := conv_own hown'; rw [hst.out, ← hf.out] at hcv)
        go_ret
        exact ⟨rfl, (hb.alloc hb.size _).trans hb'⟩
  · rw [Bool.not_eq_true] at h1
    have hf : Hid (varB n = ⟨#[]⟩) := by show varB n = _; rw [varB, h1]; rfl
    go_enter Tryd.func35, Tryd.ntmps35
    go_wp2_with (go_at_call 62; refine (i_within _ _ _ _).mono ?_; rintro e w' ⟨rfl, rfl⟩)
    go_ret
    exact ⟨ret_str hf.out.symm, Below.refl _ _⟩
end Go.Proofs.YtdajhcammnlonaaDoor
