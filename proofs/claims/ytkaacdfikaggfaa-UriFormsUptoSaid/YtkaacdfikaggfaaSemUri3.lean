/- Lists of pairs: the same as themselves; written over. -/
import Derived.Test.YtkaacdfikaggfaaSemUri2
import Derived.Test.YtkaacdfikaggfaaPAx4
namespace Go.Proofs.Ytkaacdfikaggfaa.Sem
open Go.RowKit Go.Proofs.YtkaacdfikaggfaaW.PrintWords Go.Proofs.Ytkaacdfikaggfaa.PA Go.Proofs.Ytkaacdfikaggfaa.Bs Go.Proofs.Ytkaacdfikaggfaa.UriF Go.Proofs.Ytkaacdfikaggfaa.UriD
set_option linter.unusedVariables false
theorem same_l0 (l : List S52) (hl : l.length ≤ 9223372036854775806) : ∀ (d i k : Nat), l.length - i = d → i ≤ l.length → d < k → cloisterref06_Same.l0 k l l i = some true := by
  intro d
  induction d with
  | zero =>
    intro i k hd hi hk
    obtain ⟨k, rfl⟩ : ∃ m, k = m + 1 := ⟨k - 1, by omega⟩
    simp only [cloisterref06_Same.l0]
    rw [if_neg (by omega)]
  | succ d ih =>
    intro i k hd hi hk
    obtain ⟨k, rfl⟩ : ∃ m, k = m + 1 := ⟨k - 1, by omega⟩
    simp only [cloisterref06_Same.l0]
    rw [if_pos (by omega), if_pos (by omega), if_pos (by omega), if_neg (by simp), w64s (by omega) (by omega : l.length ≤ 9223372036854775807)]
    exact ih (i + 1) k (by omega) (by omega) (by omega)
theorem same_self (l : List S52) (hl : l.length ≤ 9223372036854775806) (k : Nat) (hk : l.length < k) : cloisterref06_Same.f k l l = some true := by
  unfold cloisterref06_Same.f
  rw [if_pos rfl]
  exact same_l0 l hl l.length 0 k (by omega) (by omega) hk
theorem spoil_l0 : ∀ (d i k : Nat) (l : List S52), l.length ≤ 9223372036854775806 → l.length - i = d → i ≤ l.length → d < k → ∃ r, cloisterlaw06_spoil.l0 k l i = some r := by
  intro d
  induction d with
  | zero =>
    intro i k l hl hd hi hk
    obtain ⟨k, rfl⟩ : ∃ m, k = m + 1 := ⟨k - 1, by omega⟩
    simp only [cloisterlaw06_spoil.l0]
    rw [if_neg (by omega)]; exact ⟨_, rfl⟩
  | succ d ih =>
    intro i k l hl hd hi hk
    obtain ⟨k, rfl⟩ : ∃ m, k = m + 1 := ⟨k - 1, by omega⟩
    simp only [cloisterlaw06_spoil.l0]
    rw [if_pos (by omega), if_pos (by omega), w64s (by omega) (by omega : l.length ≤ 9223372036854775807)]
    exact ih (i + 1) k _ (by simpa using hl) (by simp; omega) (by simp; omega) (by omega)
theorem spoil_some (l : List S52) (hl : l.length ≤ 9223372036854775806) (k : Nat) (hk : l.length < k) : ∃ r, cloisterlaw06_spoil.f k l = some r := spoil_l0 l.length 0 k l hl (by omega) (by omega) hk
theorem foldP_len : ∀ (ps : List (List Int × Int)) (st : FSt), (foldP formStep st ps).1.length ≤ st.1.length + ps.length := by
  intro ps
  induction ps with
  | nil => intro st; simp [foldP]
  | cons p r ih =>
    intro st
    obtain ⟨p, at_⟩ := p
    have h1 := formStep_len st (strOfNums p) at_
    have h2 := ih (formStep st (strOfNums p) at_).1
    simp only [foldP, List.length_cons]
    split <;> omega
theorem pcs_len (c : Int) : ∀ (r cur : List Int) (a b : Int), (pcs c r cur a b).length ≤ r.length + 1 := by
  intro r
  induction r with
  | nil => intro cur a b; simp [pcs]
  | cons x r ih =>
    intro cur a b
    simp only [pcs]
    split
    · have := ih [] (b + 1) (b + 1); simp only [List.length_cons]; omega
    · have := ih (cur ++ [x]) a (b + 1); simp only [List.length_cons]; omega
theorem formR_len (s : ByteArray) : (formR s).1.length ≤ s.size + 1 := by
  have h1 := foldP_len (pcs 38 (bytesOf s) [] 0 0) ([], 0, 0)
  have h2 := pcs_len 38 (bytesOf s) [] 0 0
  rw [bytesOf_length] at h2
  simp only [List.length_nil] at h1
  rw [formR_fin]
  unfold fin
  split
  · simp
  · split
    · simp
    · show (foldP formStep ([], 0, 0) (pcs 38 (bytesOf s) [] 0 0)).1.length ≤ _
      omega
end Go.Proofs.Ytkaacdfikaggfaa.Sem
