/- row.Check in closed form. -/
import Derived.Test.YthphoifaingbkaaPofx
import Derived.Test.YthphoifaingbkaaSemBytes
namespace Go.Proofs.Ythphoifaingbkaa.Sem
open Go.RowKit Go.Proofs.YthphoifaingbkaaW.PrintWords Go.Proofs.Ythphoifaingbkaa.LabelB
set_option linter.unusedVariables false
def okRow (a0 : ByteArray) (l1 : List ByteArray) (l2 l3 : List Int) (a4 : Int) : Bool :=
  decide (1 ≤ a0.size) && decide (a0.size ≤ 64) && decide (l1.length ≤ 8) && l1.all (fun c => decide (c.size ≤ 256)) && okL l2 l3 && decide (-1 ≤ a4) && decide (a4 < 16)
theorem ocheck_l0 (a : List ByteArray) (hm : a.length ≤ 9223372036854775807) : ∀ (d i k : Nat), a.length - i = d → i ≤ a.length → d < k → Pof.row_Check.l0 k a (a.length : Int) (i : Int) = some (if (a.drop i).all (fun c => decide (c.size ≤ 256)) = true then 0 else 110) := by
  intro d
  induction d with
  | zero =>
    intro i k h hi hk
    obtain ⟨k, rfl⟩ : ∃ m, k = m + 1 := ⟨k - 1, by omega⟩
    unfold Pof.row_Check.l0
    rw [if_neg (by omega), List.drop_of_length_le (by omega)]; rfl
  | succ d ih =>
    intro i k h hi hk
    obtain ⟨k, rfl⟩ : ∃ m, k = m + 1 := ⟨k - 1, by omega⟩
    have ha : i < a.length := by omega
    unfold Pof.row_Check.l0
    rw [if_pos (by omega), if_pos (by omega), if_pos (by omega), rdOf_nat ha, w64s ha hm, ih (i + 1) k (by omega) (by omega) (by omega), List.drop_eq_getElem_cons ha]
    generalize a[i] = x, a.drop (i + 1) = p
    by_cases h1 : x.size ≤ 256
    · rw [if_neg (by omega)]; simp [h1]
    · rw [if_pos (by omega)]; simp [h1]
theorem olcheck_eq (l0 l1 : List Int) (k : Nat) (hk : 64 < k) : Pof.label_Check.f k l0 l1 = some (if okL l0 l1 = true then 0 else 20) := by
  exact LabelB.check_eq l0 l1 k hk
theorem ocheck_eq (a0 : ByteArray) (l1 : List ByteArray) (l2 l3 : List Int) (a4 : Int) (k : Nat) (hk : 64 < k) : Pof.row_Check.f k a0 l1 l2 l3 a4 = some (if okRow a0 l1 l2 l3 a4 = true then 0 else 110) := by
  obtain ⟨k, rfl⟩ : ∃ m, k = m + 1 := ⟨k - 1, by omega⟩
  have j1 : Pof.row_Check.j0 (k + 1) true a0 l1 l2 l3 a4 = some 110 := rfl
  have j0 : l1.length ≤ 8 → Pof.row_Check.j0 (k + 1) false a0 l1 l2 l3 a4 = some (if l1.all (fun c => decide (c.size ≤ 256)) = true then 0 else 110) := by
    intro h8
    have := ocheck_l0 l1 (by omega) l1.length 0 k (by omega) (by omega) (by omega)
    simpa [Pof.row_Check.j0] using this
  unfold Pof.row_Check.f okRow
  rw [olcheck_eq l2 l3 _ hk]
  by_cases h1 : 1 ≤ a0.size
  · rw [if_neg (by omega)]
    by_cases h2 : a0.size ≤ 64
    · rw [if_neg (by omega)]
      by_cases h3 : l1.length ≤ 8
      · rw [if_neg (by omega), Option.bind_some]
        cases h5 : okL l2 l3
        · simp [j1]
        · by_cases h6 : -1 ≤ a4
          · by_cases h7 : a4 < 16
            · rw [if_pos (by simp), if_neg (by omega), show decide (a4 ≥ 16) = false from decide_eq_false (by omega), j0 h3]
              simp [h1, h2, h3, h6, h7]
            · rw [if_pos (by simp), if_neg (by omega), show decide (a4 ≥ 16) = true from decide_eq_true (by omega), j1]
              simp [h7]
          · rw [if_pos (by simp), if_pos (by omega), j1]; simp [h6]
      · rw [if_pos (by omega), j1]; simp [h3]
    · rw [if_pos (by omega), j1]; simp [h2]
  · rw [if_pos (by omega), j1]; simp [h1]
end Go.Proofs.Ythphoifaingbkaa.Sem
