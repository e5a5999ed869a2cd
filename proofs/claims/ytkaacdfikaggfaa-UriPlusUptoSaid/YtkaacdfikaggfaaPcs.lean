/- The pieces of a text between signs, with the places where they begin; a fold over them that may stop. -/
import Derived.Test.YtkaacdfikaggfaaIdx
namespace Go.Proofs.Ytkaacdfikaggfaa.Bs
open Go.RowKit Go.Proofs.YtkaacdfikaggfaaW.PrintWords
set_option linter.unusedVariables false

def pcs (c : Int) : List Int → List Int → Int → Int → List (List Int × Int)
  | [], cur, from_, _ => [(cur, from_)]
  | b :: r, cur, from_, i => if b = c then (cur, from_) :: pcs c r [] (i + 1) (i + 1) else pcs c r (cur ++ [b]) from_ (i + 1)
theorem pcs_none (c : Int) : ∀ (r cur : List Int) (from_ i : Int), c ∉ r → pcs c r cur from_ i = [(cur ++ r, from_)] := by
  intro r
  induction r with
  | nil => intro cur from_ i _; simp [pcs]
  | cons b r ih =>
    intro cur from_ i h
    simp only [List.mem_cons, not_or] at h
    rw [pcs, if_neg (Ne.symm h.1), ih _ _ _ h.2]; simp
theorem pcs_some (c : Int) : ∀ (a b cur : List Int) (from_ i : Int), c ∉ a → pcs c (a ++ c :: b) cur from_ i = (cur ++ a, from_) :: pcs c b [] (i + a.length + 1) (i + a.length + 1) := by
  intro a
  induction a with
  | nil => intro b cur from_ i _; simp [pcs]
  | cons x a ih =>
    intro b cur from_ i h
    simp only [List.mem_cons, not_or] at h
    rw [List.cons_append, pcs, if_neg (Ne.symm h.1), ih _ _ _ _ h.2]
    simp only [List.append_assoc, List.singleton_append, List.length_cons]
    rw [show i + 1 + (a.length : Int) + 1 = i + ((a.length + 1 : Nat) : Int) + 1 by omega]
def foldP {σ : Type} (step : σ → ByteArray → Int → σ × Bool) : σ → List (List Int × Int) → σ
  | st, [] => st
  | st, (p, at_) :: r => if (step st (strOfNums p) at_).2 = true then foldP step (step st (strOfNums p) at_).1 r else (step st (strOfNums p) at_).1
theorem foldP_one {σ : Type} (step : σ → ByteArray → Int → σ × Bool) (st : σ) (p : List Int) (at_ : Int) : foldP step st [(p, at_)] = (step st (strOfNums p) at_).1 := by simp [foldP]
/-- The pieces at a place of a text: the last one. -/
theorem pcs_last {c : Int} {s : ByteArray} {i : Nat} (h : idxL c (bytesOf (s.extract i s.size)) = -1) : pcs c ((bytesOf s).drop i) [] i i = [(bytesOf (s.extract i s.size), (i : Int))] := by
  rw [bytes_tail] at *
  rcases idxL_cases c ((bytesOf s).drop i) with ⟨_, h2⟩ | ⟨k, h1, _⟩
  · rw [pcs_none c _ _ _ _ h2]; rfl
  · omega
theorem pcs_next {c : Int} {s : ByteArray} {i k : Nat} (h : idxL c (bytesOf (s.extract i s.size)) = (k : Int)) :
    pcs c ((bytesOf s).drop i) [] i i = (bytesOf (s.extract i (i + k)), (i : Int)) :: pcs c ((bytesOf s).drop (i + k + 1)) [] ((i + k + 1 : Nat) : Int) ((i + k + 1 : Nat) : Int) ∧ i + k + 1 ≤ s.size := by
  rw [bytes_tail] at h
  rcases idxL_cases c ((bytesOf s).drop i) with ⟨h1, h2⟩ | ⟨k', h1, h2, h3, h4⟩
  · omega
  · obtain rfl : k' = k := by omega
    rw [List.length_drop, bytesOf_length] at h2
    refine ⟨?_, by omega⟩
    have e : (bytesOf s).drop i = ((bytesOf s).drop i).take k' ++ c :: ((bytesOf s).drop (i + k' + 1)) := by
      conv => lhs; rw [← List.take_append_drop k' ((bytesOf s).drop i), h3, List.drop_drop, show i + (k' + 1) = i + k' + 1 by omega]
    rw [e, pcs_some c _ _ _ _ _ h4, bytesOf_mid]
    have hl : (((bytesOf s).drop i).take k').length = k' := by rw [List.length_take, List.length_drop, bytesOf_length]; omega
    rw [hl, List.nil_append, show (i : Int) + (k' : Int) + 1 = ((i + k' + 1 : Nat) : Int) by omega]
end Go.Proofs.Ytkaacdfikaggfaa.Bs
