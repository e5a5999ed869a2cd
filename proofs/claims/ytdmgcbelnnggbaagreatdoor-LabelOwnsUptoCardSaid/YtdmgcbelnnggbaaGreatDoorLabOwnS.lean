/- LabelOwns comes to true, with rounds enough. -/
import Derived.Test.YtdmgcbelnnggbaaGreatDoorSemLab2
import Derived.Test.YtdmgcbelnnggbaaGreatDoorPownx2
namespace Go.Proofs.YtdmgcbelnnggbaaGreatDoor.Semown
open Go.RowKit Go.Proofs.YtdmgcbelnnggbaaGreatDoorW.PrintWords Go.Proofs.YtdmgcbelnnggbaaGreatDoor.Plab Go.Proofs.YtdmgcbelnnggbaaGreatDoor.Pown Go.Proofs.YtdmgcbelnnggbaaGreatDoor.SetF Go.Proofs.YtdmgcbelnnggbaaGreatDoor.LabF Go.Proofs.YtdmgcbelnnggbaaGreatDoor.Semlab
set_option linter.unusedVariables false
theorem flows_of {a p b q own : List Int} (ha : May a p) (hb : May b q) (ho : Cats own) (hw : Within (lacksL a p b q) own) : flowsL a p b q own = (lacksL a p b q, 0) := by
  unfold flowsL
  rw [if_neg (not_not_intro ⟨ha, hb⟩), if_neg (not_not_intro ho), if_neg (not_not_intro hw)]
theorem flows_21 {a p b q own : List Int} (ha : May a p) (hb : May b q) (ho : Cats own) (hw : ¬ Within (lacksL a p b q) own) : flowsL a p b q own = ([], 21) := by
  unfold flowsL
  rw [if_neg (not_not_intro ⟨ha, hb⟩), if_neg (not_not_intro ho), if_pos hw]
theorem flows_ok {a p b q own : List Int} (h : (flowsL a p b q own).2 = 0) : May a p ∧ May b q ∧ Cats own ∧ Within (lacksL a p b q) own := by
  unfold flowsL at h
  by_cases h1 : May a p ∧ May b q
  · rw [if_neg (not_not_intro h1)] at h
    by_cases h2 : Cats own
    · rw [if_neg (not_not_intro h2)] at h
      by_cases h3 : Within (lacksL a p b q) own
      · exact ⟨h1.1, h1.2, h2, h3⟩
      · rw [if_pos h3] at h; exact absurd h (by decide)
    · rw [if_pos h2] at h; exact absurd h (by decide)
  · rw [if_pos h1] at h; exact absurd h (by decide)
theorem cats_join {own : List Int} (h : Cats own) : Cats (joinL own [1, 5, 9]) := ⟨joinL_rises _ _, fun c hc => by
  rcases mem_joinL.1 hc with h1 | h1
  · exact h.2 c h1
  · simp only [List.mem_cons, List.not_mem_nil, or_false] at h1; omega⟩
theorem cats_less {u v : List Int} (h : Cats u) : Cats (keptL u v false) := ⟨keptL_rises _ _ _, fun c hc => h.2 c (mem_less.1 hc).1⟩
theorem take_one (u : List Int) (i : Nat) (h : i < u.length) : (u.take (i + 1)).drop i = [u[i]] := by
  apply List.ext_getElem
  · simp; omega
  · intro j h1 h2
    simp only [List.length_cons, List.length_nil] at h2
    obtain rfl : j = 0 := by omega
    simp
theorem owns_l0 (a p b q : List Int) (ha : May a p) (hb : May b q) : ∀ (d i : Nat), (lacksL a p b q).length - i = d → i ≤ (lacksL a p b q).length → Ev (fun k => cloisterlaw02_LabelOwns.l0 k (lacksL a p b q) (i : Int) a p b q) true := by
  have hn := lacks_len a p b q
  have hc := lacks_cats ha hb
  have l1 := ha.1; have l2 := hb.2.1
  have hn2 : (lacksL a p b q).length ≤ 128 := by omega
  have hW : ∀ i, ∀ h : i < (lacksL a p b q).length, ¬ Within (lacksL a p b q) (keptL (lacksL a p b q) [(lacksL a p b q)[i]] false) := fun i h hw => by
    have h1 := hw _ (List.getElem_mem h)
    exact (mem_less.1 h1).2 List.mem_cons_self
  have hF : ∀ i, ∀ h : i < (lacksL a p b q).length, flowsL a p b q (keptL (lacksL a p b q) [(lacksL a p b q)[i]] false) = ([], 21) := fun i h => flows_21 ha hb (cats_less hc) (hW i h)
  generalize lacksL a p b q = u at *
  intro d
  induction d with
  | zero =>
    intro i h hi
    refine Ev.step (f := fun _ => some _) (fun k => ?_) (Ev.now _)
    simp only [cloisterlaw02_LabelOwns.l0]
    rw [if_neg (by omega)]
    rfl
  | succ d ih =>
    intro i h hi
    have hlt : i < u.length := by omega
    have hw : wrap64 ((i : Int) + 1) = ((i + 1 : Nat) : Int) := w64s hlt (by omega)
    have hk := kept_len u [u[i]] false
    refine Ev.step (f := fun k => (cloisterref01_Less.f k u [u[i]]).bind fun t => ((label_Flows.f k a p b q t).bind fun bt => (if bt.2 = 21 then (cloisterlaw02_LabelOwns.l0 k u ((i + 1 : Nat) : Int) a p b q) else (some false)))) (fun k => ?_) ?_
    · simp only [cloisterlaw02_LabelOwns.l0, hw]
      rw [if_pos (by omega), if_pos (by omega), if_pos (by omega), if_pos (by omega), Int.toNat_natCast, Int.toNat_natCast, take_one u i hlt]
    · refine Ev.bind (less_ev u [u[i]] (by omega) (by simp)) (Ev.bind (flows_ev a p b q _ (by omega)) ?_)
      rw [hF i hlt]
      exact Ev.congr (fun k => if_pos rfl) (ih (i + 1) (by omega) (by omega))
theorem owns_ev (a p b q own : List Int) (ho : own.length ≤ 1048576) : Ev (fun k => cloisterlaw02_LabelOwns.f k a p b q own) true := by
  unfold cloisterlaw02_LabelOwns.f
  refine Ev.bind (flows_ev a p b q own (by omega)) ?_
  by_cases h : (flowsL a p b q own).2 = 0
  · obtain ⟨ha, hb, hc, hw⟩ := flows_ok h
    refine Ev.congr (fun k => if_pos h) ?_
    rw [flows_of ha hb hc hw]
    have hn := lacks_len a p b q
    have hcl := lacks_cats ha hb
    have l1 := ha.1; have l2 := hb.2.1
    have hj := join_len own [1, 5, 9]
    simp only [List.length_cons, List.length_nil] at hj
    refine Ev.bind (flows_ev a p b q _ (by first | omega | (simp only; omega))) ?_
    simp only
    rw [flows_of ha hb hcl (fun x h => h)]
    refine Ev.bind (join_ev own [1, 5, 9] (by simp; omega)) (Ev.bind (flows_ev a p b q _ (by omega)) ?_)
    rw [flows_of ha hb (cats_join hc) (fun x h => mem_joinL.2 (.inl (hw x h)))]
    refine Ev.congr (fun k => if_pos rfl) (Ev.congr (fun k => if_pos rfl) (Ev.bind (same_ev_t rfl (by first | omega | (simp only; omega))) (Ev.congr (fun k => if_pos rfl) (Ev.bind (same_ev_t rfl (by first | omega | (simp only; omega))) (Ev.congr (fun k => if_pos rfl) (Ev.bind (within_ev _ own (by first | omega | (simp only; omega)) (by omega)) ?_))))))
    have e : (((keptL (lacksL a p b q) own false).length : Int) == 0) = true := by
      rw [beq_iff_eq]
      have := (within_less (lacksL a p b q) own).2 hw
      omega
    simp only [e]
    refine Ev.step (f := fun k => cloisterlaw02_LabelOwns.l0 k (lacksL a p b q) 0 a p b q) (fun k => ?_) (owns_l0 a p b q ha hb _ 0 rfl (by omega))
    simp only [cloisterlaw02_LabelOwns.j0]
    rfl
  · refine Ev.congr (fun k => if_neg h) (Ev.bind (rflows_ev a p b q own (by omega)) (Ev.congr (fun k => if_pos rfl) ?_))
    exact Ev.now _
end Go.Proofs.YtdmgcbelnnggbaaGreatDoor.Semown
