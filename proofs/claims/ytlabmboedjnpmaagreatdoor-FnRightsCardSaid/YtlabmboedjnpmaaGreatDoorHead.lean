/- Three closed facts on the translation's head, told apart: its text is read once, as a list of signs, and only its first words are looked at. -/
import Derived.Test.YtlabmboedjnpmaaGreatDoorRows
import Derived.JoinedOf
import Derived.KernelRfl
namespace Go.Proofs.YtlabmboedjnpmaaGreatDoor.Head
open Go
theorem toList_of {s : String} {l : List Char} (h : s = String.ofList l) : s.toList = l := by rw [h]; exact String.toList_ofList
theorem and_tt {a b : Bool} (ha : a = true) (hb : b = true) : (a && b) = true := by rw [ha, hb]; rfl
/-- a text's first word, and what stands behind its blank -/
def cutW : List Char → List Char × Option (List Char)
  | [] => ([], none)
  | c :: r => if c = Char.ofNat 32 then ([], some r) else (c :: (cutW r).1, (cutW r).2)
theorem words_cut (l : List Char) : ∀ w r, cutW l = (w, some r) → wordsSigns l = w :: wordsSigns r := by
  induction l with
  | nil => intro w r h; simp [cutW] at h
  | cons c l ih =>
    intro w r h
    by_cases hc : c = Char.ofNat 32
    · subst hc
      simp only [cutW, if_true, Prod.mk.injEq, Option.some.injEq] at h
      obtain ⟨rfl, rfl⟩ := h
      rfl
    · simp only [cutW, if_neg hc, Prod.mk.injEq] at h
      obtain ⟨rfl, h2⟩ := h
      have h3 := ih (cutW l).1 r (by rw [← h2])
      rw [wordsSigns, h3]
      exact fun e => hc e
theorem words3 (l : List Char) (h0 : cutW l = (l.take 7, some (l.drop 8))) (h1 : cutW (l.drop 8) = ((l.drop 8).take 64, some (l.drop 73))) (h2 : cutW (l.drop 73) = ((l.drop 73).take 3, some (l.drop 77))) :
    wordsSigns l = l.take 7 :: (l.drop 8).take 64 :: (l.drop 73).take 3 :: wordsSigns (l.drop 77) := by
  rw [words_cut l _ _ h0, words_cut _ _ _ h1, words_cut _ _ _ h2]
theorem behind_of (P : Program) (l : List Char) (hl : P.initOrder.toList = l) (h0 : cutW l = (l.take 7, some (l.drop 8))) (h1 : cutW (l.drop 8) = ((l.drop 8).take 64, some (l.drop 73))) (h2 : cutW (l.drop 73) = ((l.drop 73).take 3, some (l.drop 77)))
    (hb : ((l.take 7 == "harness".toList) && isSumSigns ((l.drop 8).take 64) && ((l.drop 73).take 3 == "cut".toList)) = true) : ∃ r, behindMainWord (wordsSigns P.initOrder.toList) = "cut".toList :: r := by
  simp only [Bool.and_eq_true, beq_iff_eq] at hb
  refine ⟨wordsSigns (l.drop 77), ?_⟩
  rw [hl, words3 l h0 h1 h2, hb.2, hb.1.1]
  simp only [behindMainWord, hb.1.2, beq_self_eq_true, Bool.true_or, Bool.and_self, if_true]
theorem make_of (P : Program) (h : ∃ r, behindMainWord (wordsSigns P.initOrder.toList) = "cut".toList :: r) : (P.make == some Make.cut) = true := by
  obtain ⟨r, hr⟩ := h
  unfold Program.make Program.headLifts
  rw [hr]
  rfl
theorem liftsFinal_of (P : Program) (h : ∃ r, behindMainWord (wordsSigns P.initOrder.toList) = "cut".toList :: r) : (false == P.liftsFinal) = true := by
  obtain ⟨r, hr⟩ := h
  unfold Program.liftsFinal Program.headLifts
  rw [hr]
  rfl
theorem mayEnter_of (P : Program) (h : ∃ r, behindMainWord (wordsSigns P.initOrder.toList) = "cut".toList :: r) (h1 : P.laysLater = false) (h2 : P.bearsReflect = false) (h3 : P.doorFits [] = true) : P.mayEnter = true := by
  obtain ⟨r, hr⟩ := h
  unfold Program.mayEnter
  rw [hr]
  have e : stripLifts liftWords ("cut".toList :: r) = ([], "cut".toList :: r) := rfl
  simp only [e, h1, h2, h3]
  rfl
set_option maxRecDepth 1000000 in
theorem behind : ∃ r, behindMainWord (wordsSigns Tryz.prog.initOrder.toList) = "cut".toList :: r :=
  behind_of Tryz.prog _ (toList_of (l := _) rfl) (by kernel_rfl) (by kernel_rfl) (by kernel_rfl) (by kernel_rfl)
theorem mayEnter : Tryz.prog.mayEnter = true := mayEnter_of Tryz.prog behind (by kernel_rfl) (by kernel_rfl) (by kernel_rfl)
theorem liftsFinal : (false == Tryz.prog.liftsFinal) = true := liftsFinal_of Tryz.prog behind
theorem make : (Tryz.prog.make == some Make.cut) = true := make_of Tryz.prog behind
end Go.Proofs.YtlabmboedjnpmaaGreatDoor.Head
