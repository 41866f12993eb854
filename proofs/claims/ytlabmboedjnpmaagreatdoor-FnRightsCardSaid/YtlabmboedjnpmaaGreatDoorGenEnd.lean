/- The draws of trees come to an end: out of each state, some round behind it is small enough. No program is in sight here. -/
import Derived.Test.YtlabmboedjnpmaaGreatDoorGenWin
import Derived.Test.YtlabmboedjnpmaaGreatDoorMemR
namespace Go.Proofs.YtlabmboedjnpmaaGreatDoor
open Go.RowKit
set_option linter.unusedVariables false

theorem allSmall_at {f b : Nat → Nat} {g : Gen} {m : Nat} : ∀ {k s : Nat}, allSmall f b g m k s = true → ∀ j, j < k → (Gen.run b f g (iterS f j s)).1 ≤ m
  | k + 1, s, h, j, hj => by
    rw [allSmall, Bool.and_eq_true] at h
    match j with
    | 0 => exact Nat.le_of_ble_eq_true h.1
    | j + 1 => exact allSmall_at h.2 j (by omega)
theorem iterS_add {S : Type} (t : S → S) : ∀ (a b : Nat) (s : S), iterS t (a + b) s = iterS t b (iterS t a s)
  | 0, b, s => by rw [Nat.zero_add]; rfl
  | a + 1, b, s => by rw [Nat.add_right_comm]; exact iterS_add t a b (t s)
theorem iterS_iterF (f : Nat → Nat) : ∀ (k n : Nat), iterS f k n = iterF f k n
  | 0, _ => rfl
  | k + 1, n => iterS_iterF f k (f n)
/-- A draw that chooses at all: some choice is made. -/
theorem Gen.In.run_pos {S : Type} (b : S → Nat) (t : S → S) {n : Nat} {k : Nat → Gen} {N M : Nat} (h : (Gen.draw n k).In N M) (s : S) : ∃ j, 0 < j ∧ j ≤ N ∧ (Gen.run b t (.draw n k) s).2 = iterS t j s := by
  obtain ⟨_, j, hj, h2⟩ := Gen.In.run b t (h.2.2 (b s % n) (Nat.mod_lt _ h.1)) (t s)
  exact ⟨j + 1, by omega, by have := h.2.1; omega, h2⟩
/-- Rounds of the generator alone come to a small one. -/
theorem ends_lcg {f b : Nat → Nat} {n : Nat} {k : Nat → Gen} {N M m : Nat} (hin : (Gen.draw n k).In N M) (hw : allSmall f b (.draw n k) m N 0 = true) :
    ∀ (c : Nat) (x : Nat), iterS f c x = 0 → ∃ q, (Gen.run b f (.draw n k) (iterS (fun y => (Gen.run b f (.draw n k) y).2) q x)).1 ≤ m := by
  intro c
  induction c using Nat.strongRecOn with
  | ind c ih =>
    intro x hx
    by_cases h0 : c = 0
    · subst h0
      obtain rfl : x = 0 := hx
      exact ⟨0, allSmall_at hw 0 hin.2.1⟩
    · obtain ⟨j, hj0, hjN, hr⟩ := Gen.In.run_pos b f hin x
      by_cases hc : j ≤ c
      · obtain ⟨q, hq⟩ := ih (c - j) (by omega) (iterS f j x) (by
          rw [← iterS_add, show j + (c - j) = c by omega]
          exact hx)
        exact ⟨q + 1, by rw [← hr] at hq; exact hq⟩
      · refine ⟨1, ?_⟩
        show (Gen.run b f (.draw n k) (Gen.run b f (.draw n k) x).2).1 ≤ m
        rw [hr, show j = c + (j - c) by omega, iterS_add, hx]
        exact allSmall_at hw (j - c) (by omega)
def runD (cs : List UInt8) (g : Gen) (s : Nat × Int) : Nat × (Nat × Int) := Gen.run (fun s => (byteD cs s).toNat) (stepD cs) g s
/-- a state as one number -/
def natH (h : Int) : Nat := (nextH h % 18446744073709551616).toNat
theorem natH_lt (h : Int) : natH h < mS := by unfold natH mS; omega
theorem wrap_mod (x : Int) : wrap64 x % 18446744073709551616 = x % 18446744073709551616 := by
  unfold wrap64
  omega
theorem two_mod (A C M x y z : Int) (h1 : z % M = (y * A) % M) (h2 : x % M = (z + C) % M) : x % M = ((y % M) * A + C) % M := by
  have e : (y % M) * A % M = y * A % M := by rw [Int.mul_emod, Int.emod_emod_of_dvd y (Int.dvd_refl M), ← Int.mul_emod]
  rw [h2, Int.add_emod, h1, ← e, ← Int.add_emod]
theorem toNat_lcg (A C M z : Nat) (y : Int) (h : (z : Int) = y) : (z * A + C) % M = ((y * (A : Int) + (C : Int)) % (M : Int)).toNat := by
  subst h
  rw [← Int.natCast_mul, ← Int.natCast_add, ← Int.natCast_emod, Int.toNat_natCast]
theorem natH_next (h : Int) : lcgN (natH h) = natH (nextH h) := by
  have e2 : nextH (nextH h) % 18446744073709551616 = ((nextH h % 18446744073709551616) * 6364136223846793005 + 1442695040888963407) % 18446744073709551616 :=
    two_mod _ _ _ _ _ (wrap64 (nextH h * 6364136223846793005)) (wrap_mod _) (wrap_mod _)
  have e1 : ((natH h : Nat) : Int) = nextH h % 18446744073709551616 := by
    unfold natH
    exact Int.toNat_of_nonneg (Int.emod_nonneg _ (by decide))
  have e3 := toNat_lcg 6364136223846793005 1442695040888963407 18446744073709551616 (natH h) _ e1
  unfold lcgN
  rw [e3]
  show _ = (nextH (nextH h) % 18446744073709551616).toNat
  rw [e2]
  rfl
theorem wrap_byte (x : Nat) (h : x < 256) : IntKind.i64.wrap (x : Int) = (x : Int) := IntWalk.i64_in _ (by omega)
theorem mixH_nat (h : Int) : (mixH h).toNat = byteN (h % 18446744073709551616).toNat := by
  obtain ⟨n, hn⟩ : ∃ n : Nat, (h % 18446744073709551616).toNat = n := ⟨_, rfl⟩
  obtain ⟨a, ha⟩ : ∃ a : Int, h / 8589934592 = a := ⟨_, rfl⟩
  obtain ⟨c, hc⟩ : ∃ c : Int, h / 35184372088832 = c := ⟨_, rfl⟩
  have ea : (BitVec.ofInt 64 a).toNat % 256 = n / 8589934592 % 256 := by
    rw [BitVec.toNat_ofInt]
    omega
  have ec : (BitVec.ofInt 64 c).toNat % 256 = n / 35184372088832 % 256 := by
    rw [BitVec.toNat_ofInt]
    omega
  have e0 : mixH h = IntKind.i64.wrap (((BitVec.ofInt 64 (IntKind.i64.wrap ((BitVec.ofInt 64 a ^^^ BitVec.ofInt 64 c).toNat : Int))) &&& BitVec.ofInt 64 255).toNat : Int) := by
    unfold mixH
    rw [ha, hc]
    rfl
  rw [ofInt_wrap, show BitVec.ofInt 64 (((BitVec.ofInt 64 a ^^^ BitVec.ofInt 64 c).toNat : Nat) : Int) = BitVec.ofInt 64 a ^^^ BitVec.ofInt 64 c by
    apply BitVec.eq_of_toNat_eq
    rw [BitVec.toNat_ofInt]
    have := (BitVec.ofInt 64 a ^^^ BitVec.ofInt 64 c).isLt
    omega] at e0
  have e1 : ((BitVec.ofInt 64 a ^^^ BitVec.ofInt 64 c) &&& BitVec.ofInt 64 255).toNat = byteN n := by
    rw [BitVec.toNat_and, BitVec.toNat_xor, show (BitVec.ofInt 64 255).toNat = 2 ^ 8 - 1 by decide, Nat.and_two_pow_sub_one_eq_mod, Nat.xor_mod_two_pow]
    unfold byteN
    rw [show (256 : Nat) = 2 ^ 8 by decide] at ea ec ⊢
    rw [Nat.xor_mod_two_pow, ea, ec]
  rw [e0, e1, wrap_byte _ (byteN_lt n), hn]
  rfl
theorem byte_past (cs : List UInt8) (s : Nat × Int) (hs : s.1 = cs.length) : (byteD cs s).toNat = byteN (natH s.2) := by
  unfold byteD
  rw [List.getElem?_eq_none (by omega)]
  exact mixH_nat _
theorem natH_reach (h : Int) : ∃ c, iterS lcgN c (natH h) = 0 := by
  obtain ⟨d, hd⟩ := lcg_reach (natH h) 0 (natH_lt _) (by unfold mS; omega)
  exact ⟨d, (iterS_iterF lcgN d (natH h)).trans hd⟩
/-- The rounds of a draw come to a small one. -/
theorem ends_all {f b : Nat → Nat} (hb : ∀ (cs : List UInt8) (s : Nat × Int), s.1 = cs.length → b (natH s.2) = (byteD cs s).toNat) (hf : ∀ h, f (natH h) = natH (nextH h)) (hreach : ∀ h, ∃ c, iterS f c (natH h) = 0) {n : Nat} {k : Nat → Gen} {N M m : Nat} (hin : (Gen.draw n k).In N M) (hw : allSmall f b (.draw n k) m N 0 = true) (cs : List UInt8) :
    ∀ (c : Nat) (s : Nat × Int), s.1 + c = cs.length → ∃ q, (runD cs (.draw n k) (iterS (fun y => (runD cs (.draw n k) y).2) q s)).1 ≤ m := by
  have hplace : ∀ (j : Nat) (s : Nat × Int), s.1 ≤ cs.length → (iterS (stepD cs) j s).1 = min (s.1 + j) cs.length := by
    intro j
    induction j with
    | zero => intro s h; show s.1 = _; omega
    | succ j ih =>
      intro s h
      have e : (stepD cs s).1 = if s.1 < cs.length then s.1 + 1 else s.1 := rfl
      rw [show iterS (stepD cs) (j + 1) s = iterS (stepD cs) j (stepD cs s) from rfl, ih _ (by rw [e]; split <;> omega), e]
      split <;> omega
  intro c
  induction c using Nat.strongRecOn with
  | ind c ih =>
    intro s hs
    by_cases h0 : c = 0
    · have hmap := Gen.run_map (fun s => (byteD cs s).toNat) (stepD cs) b f (fun s : Nat × Int => natH s.2) (fun s => s.1 = cs.length)
        (fun s h => by unfold stepD; dsimp only; rw [if_neg (by omega)]; exact h) (fun s h => hb cs s h) (fun s h => hf s.2) (.draw n k)
      obtain ⟨d, hd⟩ := hreach s.2
      obtain ⟨q, hq⟩ := ends_lcg hin hw d (natH s.2) hd
      have hsl : s.1 = cs.length := by omega
      clear hd hs h0 ih
      have key : ∀ (q : Nat) (s : Nat × Int), s.1 = cs.length → (iterS (fun y => (runD cs (.draw n k) y).2) q s).1 = cs.length ∧ iterS (fun y => (Gen.run b f (.draw n k) y).2) q (natH s.2) = natH (iterS (fun y => (runD cs (.draw n k) y).2) q s).2 := by
        intro q
        induction q with
        | zero => intro s h; exact ⟨h, rfl⟩
        | succ q ih =>
          intro s h
          have h1 : (runD cs (.draw n k) s).2.1 = cs.length := by
            obtain ⟨j, _, _, hr⟩ := Gen.In.run_pos (fun s => (byteD cs s).toNat) (stepD cs) hin s
            unfold runD
            rw [hr, hplace j s (by omega)]
            omega
          obtain ⟨h2, h3⟩ := ih _ h1
          refine ⟨h2, ?_⟩
          show iterS _ q (Gen.run b f (.draw n k) (natH s.2)).2 = _
          rw [hmap s h]
          exact h3
      obtain ⟨k1, k2⟩ := key q s hsl
      refine ⟨q, ?_⟩
      rw [k2, hmap _ k1] at hq
      exact hq
    · obtain ⟨j, hj0, _, hr⟩ := Gen.In.run_pos (fun s => (byteD cs s).toNat) (stepD cs) hin s
      have hp := hplace j s (by omega)
      rw [← hr] at hp
      obtain ⟨q, hq⟩ := ih (cs.length - (runD cs (.draw n k) s).2.1) (by unfold runD; rw [hp]; omega) (runD cs (.draw n k) s).2 (by
        unfold runD
        rw [hp]
        omega)
      exact ⟨q + 1, hq⟩
theorem ends_of {g : Gen} {n : Nat} {k : Nat → Gen} {N M m : Nat} (hg : g = .draw n k) (hin : g.In N M) (hw : allSmall lcgN byteN g m N 0 = true) (cs : List UInt8) (s : Nat × Int) (hs : s.1 ≤ cs.length) : ∃ q, (runD cs g (iterS (fun y => (runD cs g y).2) q s)).1 ≤ m := by
  subst hg
  exact ends_all (fun cs s h => (byte_past cs s h).symm) natH_next natH_reach hin hw cs (cs.length - s.1) s (by omega)
theorem some_ends (cs : List UInt8) (s : Nat × Int) (hs : s.1 ≤ cs.length) : ∃ q, (runD cs someG (iterS (fun y => (runD cs someG y).2) q s)).1 ≤ 60 := ends_of (show someG = .draw 4 _ from rfl) some_in some_window cs s hs
theorem prog_ends (cs : List UInt8) (s : Nat × Int) (hs : s.1 ≤ cs.length) : ∃ q, (runD cs progG (iterS (fun y => (runD cs progG y).2) q s)).1 ≤ 220 := ends_of (show progG = .draw 4 _ from rfl) prog_in prog_window cs s hs
end Go.Proofs.YtlabmboedjnpmaaGreatDoor
