/- The pure statement of RowBytes: the code and the reference come to the same. -/
import Derived.Test.YthphoifaingbkaaStRowBytes
import Derived.Test.YthphoifaingbkaaRowRd5
namespace Go.Proofs.Ythphoifaingbkaa
open Go.RowKit Go.Proofs.YthphoifaingbkaaW.PrintWords Go.Proofs.Ythphoifaingbkaa.PB Go.Proofs.Ythphoifaingbkaa.Sem Go.Proofs.Ythphoifaingbkaa.LabelB
set_option linter.unusedVariables false
theorem rowP_ok {L : List Int} {key : ByteArray} {cl : List ByteArray} {S I : List Int} {who : Int} {r : List Int} (h : rowP L = some (key, cl, S, I, who, r)) : cl.length ≤ 64 ∧ S.length ≤ 64 ∧ I.length ≤ 64 := by
  unfold rowP at h
  obtain ⟨k, _, h⟩ := Option.bind_eq_some_iff.mp h
  obtain ⟨n, _, h⟩ := Option.bind_eq_some_iff.mp h
  split at h
  · cases h
  · obtain ⟨c, _, h⟩ := Option.bind_eq_some_iff.mp h
    obtain ⟨l, _, h⟩ := Option.bind_eq_some_iff.mp h
    obtain ⟨w, _, h⟩ := Option.bind_eq_some_iff.mp h
    split at h
    · rename_i hok
      simp only [Option.some.injEq, Prod.mk.injEq] at h
      obtain ⟨rfl, rfl, rfl, rfl, rfl, rfl⟩ := h
      simp only [okRow, okL, Bool.and_eq_true, decide_eq_true_eq] at hok
      omega
    · cases h
theorem Pure.RowBytes : RowBytes.Pure := by
  intro a0 a1 a2 a3 a4 s _ hl1 _ hl2 _ hl3 _ _ hs
  have hof : ∃ x : ByteArray × List ByteArray × List Int × List Int × Int × Int × Int, (x.2.1.length ≤ 64 ∧ x.2.2.1.length ≤ 64 ∧ x.2.2.2.1.length ≤ 64) ∧ (∀ k, 100 < k → RowOf.ofF k s = some x) ∧ (∀ k, 300 < k → cloisterref11_Of.f k s = some x) := by
    rcases ofF_eq s (by omega) 101 (by omega) with ⟨key, cl, S, I, who, b, e1, hb, e2⟩ | ⟨e1, e2⟩
    · refine ⟨(key, cl, S, I, who, (b : Int), 0), rowP_ok e1, fun k hk => ?_, fun k hk => ?_⟩
      · rcases ofF_eq s (by omega) k hk with ⟨key', cl', S', I', who', b', f1, hb', f2⟩ | ⟨f1, f2⟩
        · rw [e1] at f1
          simp only [Option.some.injEq, Prod.mk.injEq] at f1
          obtain ⟨rfl, rfl, rfl, rfl, rfl, f3⟩ := f1
          have : b = b' := by have := congrArg List.length f3; rw [List.length_drop, List.length_drop, bytesOf_length] at this; omega
          rw [f2, this]
        · rw [e1] at f1; cases f1
      · rcases rof_eq s hs k hk with ⟨key', cl', S', I', who', b', f1, hb', f2⟩ | ⟨f1, f2⟩
        · rw [e1] at f1
          simp only [Option.some.injEq, Prod.mk.injEq] at f1
          obtain ⟨rfl, rfl, rfl, rfl, rfl, f3⟩ := f1
          have : b = b' := by have := congrArg List.length f3; rw [List.length_drop, List.length_drop, bytesOf_length] at this; omega
          rw [f2, this]
        · rw [e1] at f1; cases f1
    · refine ⟨noRow, by simp [noRow], fun k hk => ?_, fun k hk => ?_⟩
      · rcases ofF_eq s (by omega) k hk with ⟨key', cl', S', I', who', b', f1, hb', f2⟩ | ⟨f1, f2⟩
        · rw [e1] at f1; cases f1
        · exact f2
      · rcases rof_eq s hs k hk with ⟨key', cl', S', I', who', b', f1, hb', f2⟩ | ⟨f1, f2⟩
        · rw [e1] at f1; cases f1
        · exact f2
  obtain ⟨⟨x1, x2, x3, x4, x5, x6, x7⟩, ⟨m1, m2, m3⟩, hx, hy⟩ := hof
  simp only at m1 m2 m3
  refine ⟨1000 + a1.length + a2.length + a3.length + x2.length + x3.length + x4.length, ?_⟩
  generalize hk : 1000 + a1.length + a2.length + a3.length + x2.length + x3.length + x4.length = k
  unfold RowBytesH.f row_Of.f RowOf.ofG
  rw [rsize_eq a0 a1 a2 a3 a4 k (by omega), rrsize_eq a0 a1 a2 a3 a4 (by omega) k (by omega) (by omega), rbytes_eq a0 a1 a2 a3 a4 k (by omega), rrbytes_eq a0 a1 a2 a3 a4 (by omega) k (by omega) (by omega), if_pos (show s.size ≤ 9223372036854775807 by omega), hx k (by omega), hy k (by omega),
    rcheck_eq a0 a1 a2 a3 a4 k (by omega), rrcheck_eq a0 a1 a2 a3 a4 (by omega) k (by omega) (by omega)]
  simp only [Option.bind_some]
  rw [rsame_eq x1 x1 x2 x2 x3 x4 x3 x4 x5 x5 (by omega) (by omega) (by omega) k (by omega) (by omega) (by omega), awake_eq k (by omega)]
  simp
end Go.Proofs.Ythphoifaingbkaa
