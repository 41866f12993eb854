/- The argument of a law that is a code: a slice of bytes. -/
import Derived.Test.YtlabmboedjnpmaaGreatDoorChecked
import Derived.Test.YtlabmboedjnpmaaGreatDoorMemR
namespace Go.Proofs.YtlabmboedjnpmaaGreatDoor
open Go.RowKit Go.ChangeShapes Go.WideShapes Go.ChangeAt Go.Deep
set_option linter.unusedVariables false
theorem bcell_lt {w : World} {a : Addr} {v : Value} (h : w.cell? a = some v) : a.block < w.heap.size := by
  by_cases hlt : a.block < w.heap.size
  · exact hlt
  · have e : w.heap[a.block]? = none := Array.getElem?_eq_none (by omega)
    simp [World.cell?, e] at h
section
variable {H : Type} {enc : TypeId × Value → H} {w : World} {base : Nat} {spare : Nat → Bool} {held : Bool}
set_option maxRecDepth 100000 in
theorem open_bytes {r : Reach} {b0 : Nat} {v : Value} {d : DataW H} {p : List MemPlace} (hv : Value.okWide Tryz.prog w r b0 22 v) (h : DataW.Trod enc Tryz.prog w base spare held 22 v d p) : ∃ l, BytesIn w w.heap.size v l := by
  have h1 : Tryz.prog.cellsOf 5 = 1 := by kernel_rfl
  obtain ⟨a0, len, cap, rfl⟩ := okWide_slice Tryz.underlying22 hv
  obtain ⟨fuel, hf⟩ := h
  rcases open_slice Tryz.underlying22 hf with ⟨hcs, _⟩ | ⟨x, l, c, m, n, D, Pl, hcs, _, hl, hm, hmm, _, hi⟩
  · simp [Value.cells] at hcs
    obtain ⟨rfl, rfl, rfl⟩ := hcs
    exact ⟨[], none, 0, rfl, Nat.le_refl _, Nat.zero_le _, fun h => absurd h (by simp)⟩
  · simp [Value.cells] at hcs
    obtain ⟨rfl, rfl, rfl⟩ := hcs
    have hlm : len ≤ m := by rw [hmm]; split <;> omega
    have each : ∀ i, i < len → ∃ z : UInt8, w.cell? (x.add i) = some (.int .u8 (z.toNat : Int)) := by
      intro i him
      obtain ⟨cs', hc, ht⟩ := hi i (by omega)
      rw [h1, Nat.mul_one] at hc
      obtain ⟨z, rfl, _, hz⟩ := DataW.trod_int Tryz.underlying5 ht
      obtain ⟨_, _, hat⟩ := World.cells?_some hc
      have hz2 : 0 ≤ z ∧ z < 256 := by
        have := hz
        simp [Lit.wf, IntKind.min, IntKind.max, IntKind.signed, IntKind.bits] at this
        omega
      refine ⟨UInt8.ofNat z.toNat, ?_⟩
      have e : ((UInt8.ofNat z.toNat).toNat : Int) = z := by rw [UInt8.toNat_ofNat']; omega
      rw [e]
      simpa [Addr.add] using hat 0 (by omega)
    obtain ⟨f, hfn⟩ := choose_lt each
    refine ⟨(List.range len).map f, some x, cap, by simp, by simpa using hl, hm, fun hp => ?_⟩
    simp at hp
    obtain ⟨b, off, spot⟩ := x
    have h0 := hfn 0 hp
    simp [Addr.add] at h0
    have hsp : spot = none := World.cell?_spot h0
    subst hsp
    refine ⟨b, off, rfl, bcell_lt h0, fun i t hit => ?_⟩
    have him : i < len := by
      have := (List.getElem?_eq_some_iff.1 hit).1
      simpa using this
    have e : t = f i := by simpa [him] using hit.symm
    subst e
    have hq := hfn i him
    have k : (⟨b, off, none⟩ : Addr).add i = ⟨b, off + i, none⟩ := by
      unfold Addr.add
      split <;> simp_all
    rwa [k] at hq
end
end Go.Proofs.YtlabmboedjnpmaaGreatDoor
