/- The pure statement of RowApart: unlike rows have unlike bytes. -/
import Derived.Test.YthphoifaingbkaaStRowApart
import Derived.Test.YthphoifaingbkaaRowSem2
namespace Go.Proofs.Ythphoifaingbkaa
open Go.RowKit Go.Proofs.YthphoifaingbkaaW.PrintWords Go.Proofs.Ythphoifaingbkaa.PA Go.Proofs.Ythphoifaingbkaa.Sem
set_option linter.unusedVariables false
theorem Pure.RowApart : RowApart.Pure := by
  intro a0 a1 a2 a3 a4 b0 b1 b2 b3 b4 _ hl1 _ hl2 _ hl3 _ _ _ hm1 _ hm2 _ hm3 _ _
  refine ⟨1000 + a1.length + a2.length + a3.length + b1.length, ?_⟩
  obtain ⟨k, hk⟩ : ∃ k, k + 1 = 1000 + a1.length + a2.length + a3.length + b1.length := ⟨999 + a1.length + a2.length + a3.length + b1.length, by omega⟩
  rw [← hk]
  have hA := may_eq a0 a1 a2 a3 a4 (by omega) k (by omega) (by omega)
  have hB := may_eq b0 b1 b2 b3 b4 (by omega) k (by omega) (by omega)
  have hS := rsame_eq a0 b0 a1 b1 a2 a3 b2 b3 a4 b4 (by omega) (by omega) (by omega) k (by omega) (by omega) (by omega)
  have hw := awake_eq k (by omega)
  unfold cloisterlaw11_RowApart.f
  rw [rbytes_eq _ _ _ _ _ _ (by omega), Option.bind_some, rbytes_eq _ _ _ _ _ _ (by omega), Option.bind_some]
  cases hoa : okRow a0 a1 a2 a3 a4 with
  | false =>
    cases hob : okRow b0 b1 b2 b3 b4 <;> simp [cloisterlaw11_RowApart.j0, hA, hB, hw, hoa, hob]
  | true =>
    cases hob : okRow b0 b1 b2 b3 b4 with
    | false => simp [cloisterlaw11_RowApart.j0, hA, hB, hw, hoa, hob]
    | true =>
      have he : (strOfNums (encRow a0 a1 a2 a3 a4) = strOfNums (encRow b0 b1 b2 b3 b4)) ↔ (a0 = b0 ∧ a1 = b1 ∧ a2 = b2 ∧ a3 = b3 ∧ a4 = b4) := by
        constructor
        · intro h
          have h2 := congrArg bytesOf h
          rw [bytesOf_strOfNums (encRow_byte hoa), bytesOf_strOfNums (encRow_byte hob)] at h2
          exact (encRow_inj hoa hob (s := []) (t := []) (by rw [h2])).1
        · rintro ⟨rfl, rfl, rfl, rfl, rfl⟩; rfl
      simp [cloisterlaw11_RowApart.j0, hS, hw, toList_beq, he]
end Go.Proofs.Ythphoifaingbkaa
