/- What the printed functions of labels come to, with rounds enough. -/
import Derived.Test.YtclhddldbfdfdaaSemSet
import Derived.Test.YtclhddldbfdfdaaLabF
namespace Go.Proofs.Ytclhddldbfdfdaa.Sempt
open Go.RowKit Go.Proofs.YtclhddldbfdfdaaW.PrintWords Go.Proofs.Ytclhddldbfdfdaa.Ppt Go.Proofs.Ytclhddldbfdfdaa.Pbase Go.Proofs.Ytclhddldbfdfdaa.SetF Go.Proofs.Ytclhddldbfdfdaa.LabF
set_option linter.unusedVariables false
theorem cats_l0 (l : List Int) (hl : l.length ≤ 17592186044415) : ∀ (d i : Nat) (last : Int), l.length - i = d → i ≤ l.length → 0 ≤ last → Ev (fun k => label_cats.l0 k last l (l.length : Int) (i : Int)) (decide (From last (l.drop i))) := by
  intro d
  induction d with
  | zero =>
    intro i last h hi h0
    refine Ev.step (f := fun _ => some _) (fun k => ?_) (Ev.now _)
    simp only [label_cats.l0]
    rw [if_neg (by omega), List.drop_of_length_le (by omega)]
    simp [From, Rises]
  | succ d ih =>
    intro i last h hi h0
    have hlt : i < l.length := by omega
    rw [List.drop_eq_getElem_cons hlt]
    by_cases h1 : l[i] ≤ last
    · refine Ev.step (f := fun _ => some _) (fun k => ?_) (Ev.now _)
      simp only [label_cats.l0]
      rw [if_pos (by omega), if_pos (by omega), if_pos (by omega), rd_nat hlt, if_pos h1]
      congr 1
      symm
      rw [decide_eq_false_iff_not]
      rintro ⟨hp, _⟩
      have := (List.pairwise_cons.1 hp).1 l[i] List.mem_cons_self
      omega
    · by_cases h2 : l[i] > 2147483647
      · refine Ev.step (f := fun _ => some _) (fun k => ?_) (Ev.now _)
        simp only [label_cats.l0]
        rw [if_pos (by omega), if_pos (by omega), if_pos (by omega), rd_nat hlt, if_neg h1, if_pos h2]
        congr 1
        symm
        rw [decide_eq_false_iff_not]
        rintro ⟨_, hp⟩
        have := hp l[i] List.mem_cons_self
        omega
      · have hi' := ih (i + 1) l[i] (by omega) (by omega) (by omega)
        rw [decide_eq_decide.2 (from_cons h1 h2)]
        refine Ev.step (f := fun k => label_cats.l0 k l[i] l (l.length : Int) ((i + 1 : Nat) : Int)) (fun k => ?_) hi'
        simp only [label_cats.l0]
        rw [if_pos (by omega), if_pos (by omega), if_pos (by omega), rd_nat hlt, if_neg h1, if_neg h2, w64s hlt (by omega)]
theorem cats_ev (l : List Int) (hl : l.length ≤ 17592186044415) : Ev (fun k => label_cats.f k l) (decide (Cats l)) := by
  have h := cats_l0 l hl l.length 0 0 (by omega) (by omega) (by omega)
  rw [List.drop_zero, decide_eq_decide.2 (from_cats l)] at h
  exact h
theorem check_ev (s i : List Int) : Ev (fun k => label_Check.f k s i) (chkL s i) := by
  unfold label_Check.f
  by_cases h1 : s.length ≤ 64
  · by_cases h2 : i.length ≤ 64
    · simp only [if_neg (show ¬ ((s.length : Int) > 64) by omega), if_neg (show ¬ ((i.length : Int) > 64) by omega)]
      refine Ev.bind (cats_ev s (by omega)) ?_
      by_cases h3 : Cats s
      · refine Ev.congr (fun k => if_pos (decide_eq_true h3)) (Ev.bind (cats_ev i (by omega)) ?_)
        by_cases h4 : Cats i
        · rw [show chkL s i = 0 from if_pos ⟨h1, h2, h3, h4⟩]
          exact Ev.congr (fun k => if_pos (decide_eq_true h4)) (Ev.now _)
        · rw [show chkL s i = 20 from if_neg (fun h => h4 h.2.2.2)]
          exact Ev.congr (fun k => if_neg (by simp [h4])) (Ev.now _)
      · rw [show chkL s i = 20 from if_neg (fun h => h3 h.2.2.1)]
        exact Ev.congr (fun k => if_neg (by simp [h3])) (Ev.now _)
    · simp only [if_neg (show ¬ ((s.length : Int) > 64) by omega), if_pos (show ((i.length : Int) > 64) by omega)]
      rw [show chkL s i = 20 from if_neg (fun h => h2 h.2.1)]
      exact Ev.now _
  · simp only [if_pos (show ((s.length : Int) > 64) by omega)]
    rw [show chkL s i = 20 from if_neg (fun h => h1 h.1)]
    exact Ev.now _
theorem both_ev (as_ ai bs bi : List Int) : Ev (fun k => label_both.f k as_ ai bs bi) (decide (May as_ ai ∧ May bs bi)) := by
  unfold label_both.f
  refine Ev.bind (check_ev as_ ai) ?_
  unfold chkL
  by_cases h1 : May as_ ai
  · rw [if_pos h1]
    refine Ev.congr (fun k => if_pos rfl) (Ev.bind (check_ev bs bi) ?_)
    unfold chkL
    by_cases h2 : May bs bi
    · rw [if_pos h2, decide_eq_true ⟨h1, h2⟩]; exact Ev.now _
    · rw [if_neg h2, decide_eq_false (fun h => h2 h.2)]; exact Ev.now _
  · rw [if_neg h1, decide_eq_false (fun h => h1 h.1)]
    exact Ev.congr (fun k => if_neg (by decide)) (Ev.now _)
theorem flows_ev (as_ ai bs bi own : List Int) (ho : own.length ≤ 17592186044415) : Ev (fun k => label_Flows.f k as_ ai bs bi own) (flowsL as_ ai bs bi own) := by
  unfold label_Flows.f flowsL
  refine Ev.bind (both_ev as_ ai bs bi) ?_
  by_cases h1 : May as_ ai ∧ May bs bi
  · rw [if_neg (not_not_intro h1)]
    refine Ev.congr (fun k => if_pos (decide_eq_true h1)) (Ev.bind (cats_ev own ho) ?_)
    by_cases h2 : Cats own
    · rw [if_neg (not_not_intro h2)]
      have l1 := h1.1.1; have l2 := h1.1.2.1; have l3 := h1.2.1; have l4 := h1.2.2.1
      have k1 := kept_len as_ bs false
      have k2 := kept_len bi ai false
      have k3 := join_len (keptL as_ bs false) (keptL bi ai false)
      have e1 : ∀ k, set_Less_int.f k as_ bs = some (keptL as_ bs false) := fun k => if_pos ⟨by omega, by omega⟩
      have e2 : ∀ k, set_Less_int.f k bi ai = some (keptL bi ai false) := fun k => if_pos ⟨by omega, by omega⟩
      have e3 : ∀ k, set_Join_int.f k (keptL as_ bs false) (keptL bi ai false) = some (lacksL as_ ai bs bi) := fun k => if_pos (by omega)
      have e4 : ∀ k, set_Within_int.f k (lacksL as_ ai bs bi) own = some (decide (Within (lacksL as_ ai bs bi) own)) := fun k => by
        have hl := lacks_len as_ ai bs bi
        unfold set_Within_int.f
        rw [show set_Less_int.f k (lacksL as_ ai bs bi) own = some (keptL (lacksL as_ ai bs bi) own false) from if_pos ⟨by omega, by omega⟩]
        simp only [Option.bind_some]
        congr 1
        rw [Bool.eq_iff_iff]
        have := within_less (lacksL as_ ai bs bi) own
        simp only [decide_eq_true_eq, ← this, beq_iff_eq]
        omega
      refine Ev.congr (fun k => if_pos (decide_eq_true h2)) ?_
      simp only [e1, e2, e3, e4, Option.bind_some]
      by_cases h3 : Within (lacksL as_ ai bs bi) own
      · rw [if_neg (not_not_intro h3)]
        exact Ev.congr (fun k => if_pos (decide_eq_true h3)) (Ev.now _)
      · rw [if_pos h3]
        exact Ev.congr (fun k => if_neg (by simp [h3])) (Ev.now _)
    · rw [if_pos h2]
      exact Ev.congr (fun k => if_neg (by simp [h2])) (Ev.now _)
  · rw [if_pos h1]
    exact Ev.congr (fun k => if_neg (by simp only [decide_eq_true_eq]; exact h1)) (Ev.now _)
end Go.Proofs.Ytclhddldbfdfdaa.Sempt
