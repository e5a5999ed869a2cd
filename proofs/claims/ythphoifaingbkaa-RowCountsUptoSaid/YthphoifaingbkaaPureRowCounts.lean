/- The pure statement of RowCounts. -/
import Derived.Test.YthphoifaingbkaaStRowCounts
import Derived.Test.YthphoifaingbkaaRowSem2Q
namespace Go.Proofs.Ythphoifaingbkaa
open Go.RowKit Go.Proofs.YthphoifaingbkaaW.PrintWords Go.Proofs.Ythphoifaingbkaa.PQ Go.Proofs.Ythphoifaingbkaa.Sem
set_option linter.unusedVariables false
theorem Sem.sums (l : List ByteArray) : (((l.map (·.size)).sum : Nat) : Int) = (l.map fun c => (c.size : Int)).sum := by
  induction l with
  | nil => rfl
  | cons x r ih => simp only [List.map_cons, List.sum_cons]; omega
theorem Sem.ok_more (key : ByteArray) (cl : List ByteArray) (S I : List Int) (who : Int) (more : ByteArray) (h : okRow key cl S I who = true) : okRow key (cl ++ [more]) S I who = (decide (cl.length ≠ 8) && decide (more.size ≤ 256)) := by
  simp only [okRow, Bool.and_eq_true, decide_eq_true_eq] at h
  obtain ⟨⟨⟨⟨⟨⟨h1, h2⟩, h3⟩, h4⟩, h5⟩, h6⟩, h7⟩ := h
  unfold okRow
  rw [List.all_append, h4, h5, decide_eq_true h1, decide_eq_true h2, decide_eq_true h6, decide_eq_true h7]
  have e : decide ((cl ++ [more]).length ≤ 8) = decide (cl.length ≠ 8) := by
    rw [Bool.eq_iff_iff]; simp only [decide_eq_true_eq, List.length_append, List.length_cons, List.length_nil]; omega
  rw [e]
  simp
theorem Pure.RowCounts : RowCounts.Pure := by
  intro key cl S I who more _ hl1 _ hl2 _ hl3 _ _ hm hb
  refine ⟨1000 + cl.length, ?_⟩
  unfold RowCountsH.f
  have hz := rsize_eq key cl S I who (1000 + cl.length) (by omega)
  have hy := may_eq key cl S I who (by omega) (1000 + cl.length) (by omega) (by omega)
  have hx := rsize_eq key (cl ++ [more]) S I who (1000 + cl.length) (by omega)
  have ha := awake_eq (1000 + cl.length) (by omega)
  cases ho : okRow key cl S I who with
  | false =>
    rw [ho, if_neg (by decide)] at hz
    rw [ho] at hy
    exact if_pos ⟨0, 110, hz, ha, fun _ => ⟨hy, rfl⟩, fun h => absurd h (by decide)⟩
  | true =>
    rw [ho, if_pos rfl] at hz
    have hk := ok_more key cl S I who more ho
    rw [hk] at hx
    have hn : (((key.size + (cl.map (·.size)).sum + 16 : Nat) : Int)) = sumB key cl + 16 := by
      have := sums cl
      unfold sumB
      omega
    have ho2 := ho
    simp only [okRow, Bool.and_eq_true, decide_eq_true_eq, List.all_eq_true] at ho2
    obtain ⟨⟨⟨⟨⟨⟨h1, h2⟩, h3⟩, h4⟩, h5⟩, h6⟩, h7⟩ := ho2
    refine if_pos ⟨_, 0, hz, ha, fun h => absurd rfl h, fun _ => ⟨h2, h3, h4, by omega, hn, ?_⟩⟩
    by_cases h8 : cl.length = 8 ∨ more.size > 256
    · refine ⟨0, 110, ?_, fun _ => rfl, fun h => absurd h8 h⟩
      rw [hx, if_neg]
      rcases h8 with h | h
      · rw [decide_eq_false (by omega)]; simp
      · rw [decide_eq_false (show ¬ more.size ≤ 256 by omega)]; simp
    · refine ⟨_, 0, ?_, fun h => absurd h h8, fun _ => ⟨rfl, rfl⟩⟩
      rw [hx, decide_eq_true (by omega), decide_eq_true (show more.size ≤ 256 by omega), Bool.and_self, if_pos rfl]
      have hss := sums cl
      congr 2
      rw [List.map_append, List.sum_append]
      simp only [List.map_cons, List.map_nil, List.sum_cons, List.sum_nil]
      omega
end Go.Proofs.Ythphoifaingbkaa
