/- The first place of a byte in a text; texts cut at a byte; in plain words. -/
import Derived.Test.YtkaacdfikaggfaaBs
import Derived.Lib.Bytealg
namespace Go.Proofs.Ytkaacdfikaggfaa.Bs
open Go.RowKit Go.Proofs.YtkaacdfikaggfaaW.PrintWords
set_option linter.unusedVariables false

def idxL (c : Int) : List Int → Int
  | [] => -1
  | b :: l => if b = c then 0 else if idxL c l = -1 then -1 else idxL c l + 1
theorem idxL_ge (c : Int) : ∀ l, -1 ≤ idxL c l
  | [] => by simp [idxL]
  | b :: l => by
    have := idxL_ge c l
    simp only [idxL]
    split
    · omega
    · split <;> omega
/-- Not there; or there, and nowhere before. -/
theorem idxL_cases (c : Int) : ∀ l : List Int, (idxL c l = -1 ∧ c ∉ l) ∨ ∃ k : Nat, idxL c l = k ∧ k < l.length ∧ l.drop k = c :: l.drop (k + 1) ∧ c ∉ l.take k
  | [] => .inl ⟨rfl, by simp⟩
  | b :: l => by
    by_cases h : b = c
    · exact .inr ⟨0, by simp [idxL, h], by simp, by simp [h], by simp⟩
    · rcases idxL_cases c l with ⟨h1, h2⟩ | ⟨k, h1, h2, h3, h4⟩
      · exact .inl ⟨by simp [idxL, h, h1], by simp [h2, Ne.symm h]⟩
      · refine .inr ⟨k + 1, ?_, by simp; omega, by simpa using h3, by simp [h4, Ne.symm h]⟩
        simp only [idxL, if_neg h, h1]
        rw [if_neg (by omega)]; omega
theorem indexByte_idxL (s : ByteArray) (u : UInt8) : Lib.indexByte s.data.toList u = idxL (u.toNat : Int) (bytesOf s) := by
  unfold bytesOf
  generalize s.data.toList = l
  induction l with
  | nil => rfl
  | cons b l ih =>
    simp only [Lib.indexByte, List.map_cons, idxL, ih]
    by_cases h : b = u
    · simp [h]
    · have h2 : ¬ ((b.toNat : Int) = (u.toNat : Int)) := fun e => h (UInt8.toNat_inj.1 (by exact_mod_cast e))
      simp only [beq_iff_eq, h, h2, if_false]
def cutR (c : Int) (s : ByteArray) : ByteArray × ByteArray × Bool :=
  if idxL c (bytesOf s) < 0 then (s, ⟨#[]⟩, false) else (s.extract 0 (idxL c (bytesOf s)).toNat, s.extract ((idxL c (bytesOf s)).toNat + 1) s.size, true)
theorem cutR_none {c : Int} {s : ByteArray} (h : idxL c (bytesOf s) = -1) : cutR c s = (s, ⟨#[]⟩, false) := by unfold cutR; rw [h]; rfl
theorem cutR_some {c : Int} {s : ByteArray} {k : Nat} (h : idxL c (bytesOf s) = (k : Int)) : cutR c s = (s.extract 0 k, s.extract (k + 1) s.size, true) := by unfold cutR; rw [h, if_neg (by omega)]; rfl
theorem cutR_sizes (c : Int) (s : ByteArray) : (cutR c s).1.size ≤ s.size ∧ (cutR c s).2.1.size ≤ s.size := by
  unfold cutR
  split
  · exact ⟨Nat.le_refl _, Nat.zero_le _⟩
  · simp only [ByteArray.size_extract]; omega
end Go.Proofs.Ytkaacdfikaggfaa.Bs
