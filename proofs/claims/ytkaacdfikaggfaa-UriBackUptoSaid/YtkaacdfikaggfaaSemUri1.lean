/- What the reference's Digit and Decode come to. -/
import Derived.Test.YtkaacdfikaggfaaPAx2
import Derived.Test.YtkaacdfikaggfaaUriF
namespace Go.Proofs.Ytkaacdfikaggfaa.Sem
open Go.RowKit Go.Proofs.YtkaacdfikaggfaaW.PrintWords Go.Proofs.Ytkaacdfikaggfaa.PA Go.Proofs.Ytkaacdfikaggfaa.Bs Go.Proofs.Ytkaacdfikaggfaa.UriF
set_option linter.unusedVariables false
theorem digit_eq (c : Int) (hc : isByte c) (k : Nat) (hk : 2 ≤ k) : cloisterref06_Digit.f k c = some (dig c) := by
  obtain ⟨k, rfl⟩ : ∃ m, k = m + 2 := ⟨k - 2, by omega⟩
  unfold isByte at hc
  unfold cloisterref06_Digit.f
  by_cases h1 : c ≥ 48
  · rw [if_pos h1]
    by_cases h2 : c ≤ 57
    · simp only [cloisterref06_Digit.j0, decide_eq_true h2, if_true]
      rw [show dig c = c - 48 from by unfold dig; rw [if_pos ⟨h1, h2⟩]]; congr 1; omega
    · simp only [cloisterref06_Digit.j0, decide_eq_false h2, if_neg (show ¬ (false = true) by decide)]
      by_cases h3 : c ≥ 97
      · rw [if_pos h3]
        by_cases h4 : c ≤ 102
        · simp only [cloisterref06_Digit.j1, decide_eq_true h4, if_true]
          rw [show dig c = c - 87 from by unfold dig; rw [if_neg (by omega), if_pos ⟨h3, h4⟩]]; congr 1; omega
        · simp only [cloisterref06_Digit.j1, decide_eq_false h4, if_neg (show ¬ (false = true) by decide)]
          rw [if_pos (by omega), if_neg (by omega), show dig c = -1 from by unfold dig; rw [if_neg (by omega), if_neg (by omega), if_neg (by omega)]]
      · rw [if_neg h3]
        simp only [cloisterref06_Digit.j1, if_neg (show ¬ (false = true) by decide)]
        by_cases h5 : c ≥ 65
        · rw [if_pos h5]
          by_cases h6 : c ≤ 70
          · rw [if_pos h6, show dig c = c - 55 from by unfold dig; rw [if_neg (by omega), if_neg (by omega), if_pos ⟨h5, h6⟩]]; congr 1; omega
          · rw [if_neg h6, show dig c = -1 from by unfold dig; rw [if_neg (by omega), if_neg (by omega), if_neg (by omega)]]
        · rw [if_neg h5, show dig c = -1 from by unfold dig; rw [if_neg (by omega), if_neg (by omega), if_neg (by omega)]]
  · rw [if_neg h1]
    simp only [cloisterref06_Digit.j0, cloisterref06_Digit.j1, if_neg (show ¬ (false = true) by decide)]
    rw [if_neg (by omega), if_neg (by omega), show dig c = -1 from by unfold dig; rw [if_neg (by omega), if_neg (by omega), if_neg (by omega)]]
theorem rdecode_l0 (s : ByteArray) (hs : s.size ≤ 140737488351232) (plus : Bool) : ∀ (d i : Nat) (acc : List Int) (k : Nat), s.size - i = d → i ≤ s.size → 2 * d + 8 ≤ k → acc.length ≤ i →
    cloisterref06_Decode.l0 k s plus acc i = some (strOfNums (decA plus ((bytesOf s).drop i) 0 acc i).1, (decA plus ((bytesOf s).drop i) 0 acc i).2) := by
  intro d
  induction d using Nat.strongRecOn with
  | _ d ih =>
  intro i acc k hd hi hk ha
  obtain ⟨k, rfl⟩ : ∃ m, k = m + 2 := ⟨k - 2, by omega⟩
  by_cases hlt : i < s.size
  · rw [decA_at plus s i hlt]
    simp only [cloisterref06_Decode.l0]
    rw [if_pos (by omega), if_pos (by omega)]
    by_cases h37 : bt s i = 37
    · rw [if_pos h37, if_pos h37]
      have w1 : wrap64 ((i : Int) + 1) = (i : Int) + 1 := w64 (by omega)
      have w2 : wrap64 ((i : Int) + 2) = (i : Int) + 2 := w64 (by omega)
      rw [w1, w2]
      have j1t : cloisterref06_Decode.j1 (k + 1) s plus acc i true = some ((⟨#[]⟩ : ByteArray), 60, (i : Int)) := by simp [cloisterref06_Decode.j1]
      by_cases b1 : (i : Int) + 2 ≥ s.size
      · rw [if_pos b1, if_pos (.inl b1), j1t]; rfl
      · rw [if_neg b1, if_pos (by omega), if_pos (by omega), digit_eq _ (bt_byte s _) _ (by omega), Option.bind_some]
        by_cases b2 : dig (bt s ((i : Int) + 1)) < 0
        · rw [if_pos b2, if_pos (.inr (.inl b2)), j1t]; rfl
        · rw [if_neg b2, if_pos (by omega), if_pos (by omega), digit_eq _ (bt_byte s _) _ (by omega), Option.bind_some]
          by_cases b3 : dig (bt s ((i : Int) + 2)) < 0
          · rw [decide_eq_true b3, if_pos (.inr (.inr b3)), j1t]; rfl
          · rw [decide_eq_false b3, if_neg (by rintro (h | h | h) <;> omega)]
            simp only [cloisterref06_Decode.j1, if_neg (show ¬ (false = true) by decide)]
            rw [w1, w2, if_pos (by omega), if_pos (by omega), digit_eq _ (bt_byte s _) _ (by omega), Option.bind_some, if_pos (by omega), if_pos (by omega), digit_eq _ (bt_byte s _) _ (by omega), Option.bind_some, if_pos (by omega)]
            have d1 := dig_range (bt s ((i : Int) + 1))
            have d2 := dig_range (bt s ((i : Int) + 2))
            rw [show wrap64 (16 * dig (bt s ((i : Int) + 1))) = 16 * dig (bt s ((i : Int) + 1)) from w64 (by omega), show wrap64 (16 * dig (bt s ((i : Int) + 1)) + dig (bt s ((i : Int) + 2))) = 16 * dig (bt s ((i : Int) + 1)) + dig (bt s ((i : Int) + 2)) from w64 (by omega), show (16 * dig (bt s ((i : Int) + 1)) + dig (bt s ((i : Int) + 2))) % 256 = 16 * dig (bt s ((i : Int) + 1)) + dig (bt s ((i : Int) + 2)) by omega, show wrap64 ((i : Int) + 2 + 1) = ((i + 3 : Nat) : Int) by rw [w64 (by omega)]; omega]
            exact ih (s.size - (i + 3)) (by omega) (i + 3) _ k rfl (by omega) (by omega) (by simp; omega)
    · rw [if_neg h37, if_neg h37]
      have w1 : wrap64 ((i : Int) + 1) = ((i + 1 : Nat) : Int) := by rw [w64 (by omega)]; omega
      rw [w1]
      cases plus with
      | false =>
        rw [if_neg (by decide), if_pos (show acc.length < 140737488355328 by omega), if_neg (show ¬ (false = true ∧ bt s i = 43) by simp)]
        exact ih (s.size - (i + 1)) (by omega) (i + 1) _ (k + 1) rfl (by omega) (by omega) (by simp; omega)
      | true =>
        rw [if_pos rfl]
        by_cases h43 : bt s i = 43
        · rw [if_pos h43, if_pos (show acc.length < 140737488355328 by omega), if_pos (show true = true ∧ bt s i = 43 from ⟨rfl, h43⟩)]
          exact ih (s.size - (i + 1)) (by omega) (i + 1) _ (k + 1) rfl (by omega) (by omega) (by simp; omega)
        · rw [if_neg h43, if_pos (show acc.length < 140737488355328 by omega), if_neg (show ¬ (true = true ∧ bt s i = 43) from fun e => h43 e.2)]
          exact ih (s.size - (i + 1)) (by omega) (i + 1) _ (k + 1) rfl (by omega) (by omega) (by simp; omega)
  · rw [decA_end plus s i (by omega)]
    simp only [cloisterref06_Decode.l0]
    rw [if_neg (by omega)]
theorem rdecode_eq (s : ByteArray) (hs : s.size ≤ 140737488351232) (plus : Bool) (k : Nat) (hk : 2 * s.size + 8 ≤ k) : cloisterref06_Decode.f k s plus = some (decodeR s plus) := by
  have := rdecode_l0 s hs plus s.size 0 [] k (by omega) (by omega) (by omega) (by simp)
  unfold cloisterref06_Decode.f
  rw [show ((0 : Nat) : Int) = 0 from rfl] at this
  rw [this]; rfl
end Go.Proofs.Ytkaacdfikaggfaa.Sem
