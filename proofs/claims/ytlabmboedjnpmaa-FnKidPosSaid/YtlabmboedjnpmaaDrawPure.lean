/- What a draw reads: bytes of its code, mixed with numbers that follow; as plain data. No program is in sight here. -/
import Derived.Test.YtlabmboedjnpmaaMem
import Derived.IntWalk
import Derived.Below
namespace Go.Proofs.Ytlabmboedjnpmaa
open Go.RowKit
set_option linter.unusedVariables false

/-- a slice of bytes that lies below block B -/
def BytesIn (w : World) (B : Nat) (v : Value) (l : List UInt8) : Prop :=
  ∃ A c, v = .slice A l.length c ∧ l.length ≤ c ∧ c ≤ maxLen ∧ (0 < l.length → ∃ b off, A = some ⟨b, off, none⟩ ∧ b < B ∧ ∀ i x, l[i]? = some x → w.cell? ⟨b, off + i, none⟩ = some (.int .u8 (x.toNat : Int)))
theorem BytesIn.more {w : World} {B B' : Nat} {v : Value} {l : List UInt8} (h : BytesIn w B v l) (hB : B ≤ B') : BytesIn w B' v l := by
  obtain ⟨A, c, hv, h1, h2, h3⟩ := h
  refine ⟨A, c, hv, h1, h2, fun hp => ?_⟩
  obtain ⟨b, off, hA, hlt, hc⟩ := h3 hp
  exact ⟨b, off, hA, by omega, hc⟩
theorem BytesIn.keep {w w' : World} {B B' : Nat} {v : Value} {l : List UInt8} (h : BytesIn w B v l) (hb : Below B' w w') (hB : B ≤ B') : BytesIn w' B v l := by
  obtain ⟨A, c, hv, h1, h2, h3⟩ := h
  refine ⟨A, c, hv, h1, h2, fun hp => ?_⟩
  obtain ⟨b, off, hA, hlt, hc⟩ := h3 hp
  exact ⟨b, off, hA, hlt, fun i x hx => (hb.cell (p := ⟨b, off + i, none⟩) (by show b < B'; omega)).trans (hc i x hx)⟩

/-- all but block g is as it was -/
structure Away (g : Nat) (w w' : World) : Prop where
  os : w'.os = w.os
  tape : w'.tape = w.tape
  output : w'.output = w.output
  size : w.heap.size ≤ w'.heap.size
  block : ∀ b, b < w.heap.size → b ≠ g → w'.heap[b]? = w.heap[b]?
theorem Away.refl (g : Nat) (w : World) : Away g w w := ⟨rfl, rfl, rfl, Nat.le_refl _, fun _ _ _ => rfl⟩
theorem Away.trans {g : Nat} {a b c : World} (h : Away g a b) (k : Away g b c) : Away g a c :=
  ⟨k.os.trans h.os, k.tape.trans h.tape, k.output.trans h.output, Nat.le_trans h.size k.size, fun i hi hn => (k.block i (Nat.lt_of_lt_of_le hi h.size) hn).trans (h.block i hi hn)⟩
theorem Away.of_below {g : Nat} {w w' : World} (h : Below w.heap.size w w') : Away g w w' := ⟨h.os, h.tape, h.output, h.size, fun b hb _ => h.block b hb⟩
theorem Away.below {g B : Nat} {w w' : World} (h : Away g w w') (hg : B ≤ g) (hB : B ≤ w.heap.size) : Below B w w' := ⟨h.os, h.tape, h.output, h.size, fun b hb => h.block b (by omega) (by omega)⟩
theorem Away.below_then {g B : Nat} {a w w' : World} (k : Below B a w) (h : Away g w w') (hg : B ≤ g) (hB : B ≤ w.heap.size) : Below B a w' := k.trans (h.below hg hB)
theorem Away.then_below {g : Nat} {a w w' : World} (h : Away g a w) (k : Below a.heap.size w w') : Away g a w' :=
  ⟨k.os.trans h.os, k.tape.trans h.tape, k.output.trans h.output, Nat.le_trans h.size k.size, fun b hb hn => (k.block b hb).trans (h.block b hb hn)⟩
theorem Away.alloc {g : Nat} {w w' : World} (h : Away g w w') (o : Obj) : Away g w (w'.alloc o) := h.trans (Away.of_below ((Below.refl _ _).alloc (Nat.le_refl _) o))
theorem Away.drew {g : Nat} {w w' : World} (h : Away g w w') : Away g w w'.drew := ⟨h.os, h.tape, h.output, h.size, h.block⟩
theorem Away.drewN {g : Nat} {w w' : World} (h : Away g w w') (n : Nat) : Away g w (w'.drewN n) := ⟨h.os, h.tape, h.output, h.size, h.block⟩
theorem Away.setCell {g : Nat} {w w' : World} (h : Away g w w') (o : Nat) (v : Value) : Away g w (w'.setCell ⟨g, o, none⟩ v) :=
  ⟨h.os, h.tape, h.output, by simpa using h.size, fun b hb hn => (Below.heap_setCell w' ⟨g, o, none⟩ v b hn).trans (h.block b hb hn)⟩
theorem Away.cell {g : Nat} {w w' : World} (h : Away g w w') {b : Nat} (hb : b < w.heap.size) (hn : b ≠ g) (o : Nat) : w'.cell? ⟨b, o, none⟩ = w.cell? ⟨b, o, none⟩ := World.cell?_of_block (h.block b hb hn)
theorem Away.has {g : Nat} {w w' : World} (h : Away g w w') {b : Nat} {t : TypeId} {cs : Array Value} (k : Has w b t cs) (hn : b ≠ g) : Has w' b t cs := (h.block b k.lt hn).trans k
theorem Away.frozen {g : Nat} {w w' : World} (h : Away g w w') {b : Nat} (hb : b < w.heap.size) (hn : b ≠ g) (o : Nat) : w'.frozen? ⟨b, o, none⟩ = w.frozen? ⟨b, o, none⟩ := by
  have e := h.block b hb hn
  simp [World.frozen?, e]
theorem BytesIn.away {w w' : World} {g B : Nat} {v : Value} {l : List UInt8} (h : BytesIn w B v l) (ha : Away g w w') (hB : B ≤ g) (hs : B ≤ w.heap.size) : BytesIn w' B v l := h.keep (ha.below hB hs) (Nat.le_refl _)
/-- a row of texts -/
def StrsAt (w : World) (b : Nat) (l : List ByteArray) : Prop := b < w.heap.size ∧ ∀ (i : Nat) (x : ByteArray), l[i]? = some x → w.cell? ⟨b, i, none⟩ = some (.string x)
theorem StrsAt.away {w w' : World} {g b : Nat} {l : List ByteArray} (h : StrsAt w b l) (ha : Away g w w') (hn : b ≠ g) : StrsAt w' b l :=
  ⟨Nat.lt_of_lt_of_le h.1 ha.size, fun i x hx => (ha.cell h.1 hn i).trans (h.2 i x hx)⟩
theorem StrsAt.made (w : World) (l : List ByteArray) (T : TypeId) : StrsAt (w.alloc (.cells (l.map fun x => Value.string x).toArray T)) w.heap.size l := by
  refine ⟨by simp, fun i x hx => ?_⟩
  rw [(Has.made w T _).cell]
  simp [hx]
/-- a row of whole numbers -/
def NumsAt (w : World) (b : Nat) (l : List Int) : Prop := b < w.heap.size ∧ ∀ (i : Nat) (x : Int), l[i]? = some x → w.cell? ⟨b, i, none⟩ = some (.int .i64 x)
theorem NumsAt.away {w w' : World} {g b : Nat} {l : List Int} (h : NumsAt w b l) (ha : Away g w w') (hn : b ≠ g) : NumsAt w' b l :=
  ⟨Nat.lt_of_lt_of_le h.1 ha.size, fun i x hx => (ha.cell h.1 hn i).trans (h.2 i x hx)⟩
theorem NumsAt.made (w : World) (l : List Int) (T : TypeId) : NumsAt (w.alloc (.cells (l.map fun x => Value.int .i64 x).toArray T)) w.heap.size l := by
  refine ⟨by simp, fun i x hx => ?_⟩
  rw [(Has.made w T _).cell]
  simp [hx]

/-- the next number -/
def nextH (h : Int) : Int := wrap64 (wrap64 (h * 6364136223846793005) + 1442695040888963407)
/-- its byte -/
def mixH (h : Int) : Int := bits .and .i64 (bits .xor .i64 (h / 8589934592) (h / 35184372088832)) 255
theorem and255 (x : Int) : 0 ≤ bits .and .i64 x 255 ∧ bits .and .i64 x 255 < 256 := by
  have e : bits .and .i64 x 255 = IntKind.i64.wrap ((BitVec.ofInt 64 x &&& BitVec.ofInt 64 255).toNat : Int) := rfl
  have e2 : (BitVec.ofInt 64 255).toNat = 255 := by decide
  have h : (BitVec.ofInt 64 x &&& BitVec.ofInt 64 255).toNat ≤ 255 := by
    rw [BitVec.toNat_and, e2]
    exact Nat.and_le_right
  rw [e, IntWalk.i64_in _ (by omega)]
  omega
theorem nextH_ok (h : Int) : -9223372036854775808 ≤ nextH h ∧ nextH h ≤ 9223372036854775807 := by
  unfold nextH wrap64
  omega
/-- the place in the code, and the number -/
def stepD (cs : List UInt8) (s : Nat × Int) : Nat × Int := (if s.1 < cs.length then s.1 + 1 else s.1, nextH s.2)
def byteD (cs : List UInt8) (s : Nat × Int) : Int := match cs[s.1]? with
  | some b => bits .and .i64 (mixH (nextH s.2) + (b.toNat : Int)) 255
  | none => mixH (nextH s.2)
theorem byteD_lt (cs : List UInt8) (s : Nat × Int) : 0 ≤ byteD cs s ∧ byteD cs s < 256 := by
  unfold byteD
  split
  · exact and255 _
  · exact and255 _
def belowD (cs : List UInt8) (n : Int) (s : Nat × Int) : Int :=
  if n ≤ 0 then 0 else if n ≤ 256 then byteD cs s % n else
    (byteD cs s * 16777216 + byteD cs (stepD cs s) * 65536 + byteD cs (stepD cs (stepD cs s)) * 256 + byteD cs (stepD cs (stepD cs (stepD cs s)))) % n
def belowS (cs : List UInt8) (n : Int) (s : Nat × Int) : Nat × Int :=
  if n ≤ 0 then s else if n ≤ 256 then stepD cs s else stepD cs (stepD cs (stepD cs (stepD cs s)))
theorem belowD_lt (cs : List UInt8) {n : Int} (h : 0 < n) (s : Nat × Int) : 0 ≤ belowD cs n s ∧ belowD cs n s < n := by
  unfold belowD
  rw [if_neg (by omega)]
  split
  · exact ⟨Int.emod_nonneg _ (by omega), Int.emod_lt_of_pos _ h⟩
  · exact ⟨Int.emod_nonneg _ (by omega), Int.emod_lt_of_pos _ h⟩
end Go.Proofs.Ytlabmboedjnpmaa
