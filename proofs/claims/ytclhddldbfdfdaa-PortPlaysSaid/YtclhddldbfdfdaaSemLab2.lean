/- What the reference's functions on labels come to, and slices.Equal, label.Same, the law's flows. -/
import Derived.Test.YtclhddldbfdfdaaSemLab
import Derived.Test.YtclhddldbfdfdaaPptx
namespace Go.Proofs.Ytclhddldbfdfdaa.Sempt
open Go.RowKit Go.Proofs.YtclhddldbfdfdaaW.PrintWords Go.Proofs.Ytclhddldbfdfdaa.Ppt Go.Proofs.Ytclhddldbfdfdaa.Pbase Go.Proofs.Ytclhddldbfdfdaa.SetF Go.Proofs.Ytclhddldbfdfdaa.LabF
set_option linter.unusedVariables false
theorem rises_two (a b : Int) (t : List Int) : Rises (a :: b :: t) ↔ a < b ∧ Rises (b :: t) := by
  unfold Rises
  constructor
  · intro h
    exact ⟨(List.pairwise_cons.1 h).1 b List.mem_cons_self, (List.pairwise_cons.1 h).2⟩
  · rintro ⟨h1, h2⟩
    refine List.pairwise_cons.2 ⟨fun c hc => ?_, h2⟩
    rcases List.mem_cons.1 hc with rfl | hc
    · exact h1
    · have := (List.pairwise_cons.1 h2).1 c hc; omega
theorem rises_l0 (x : List Int) (hl : x.length ≤ 17592186044415) : ∀ (d i : Nat), x.length - i = d → 1 ≤ i → Ev (fun k => cloisterref01_Rises.l0 k x (i : Int)) (decide (Rises (x.drop (i - 1)))) := by
  intro d
  induction d with
  | zero =>
    intro i h hi
    refine Ev.step (f := fun _ => some _) (fun k => ?_) (Ev.now _)
    simp only [cloisterref01_Rises.l0]
    rw [if_neg (by omega)]
    congr 1
    symm
    rw [decide_eq_true_eq]
    have : (x.drop (i - 1)).length ≤ 1 := by rw [List.length_drop]; omega
    unfold Rises
    match hx : x.drop (i - 1) with
    | [] => exact List.Pairwise.nil
    | [a] => exact List.pairwise_singleton _ _
    | a :: b :: t => rw [hx] at this; simp at this
  | succ d ih =>
    intro i h hi
    have hlt : i < x.length := by omega
    have hlt1 : i - 1 < x.length := by omega
    have hw : wrap64 ((i : Int) - 1) = ((i - 1 : Nat) : Int) := by unfold wrap64; omega
    have hd : x.drop (i - 1) = x[i - 1] :: x[i] :: x.drop (i + 1) := by
      rw [List.drop_eq_getElem_cons hlt1]
      congr 1
      rw [show i - 1 + 1 = i by omega]
      exact List.drop_eq_getElem_cons hlt
    have hd2 : x.drop (i + 1 - 1) = x[i] :: x.drop (i + 1) := by
      rw [show i + 1 - 1 = i by omega]
      exact List.drop_eq_getElem_cons hlt
    have ih' := ih (i + 1) (by omega) (by omega)
    rw [hd2] at ih'
    have e2 : decide (Rises (x[i - 1] :: x[i] :: x.drop (i + 1))) = decide (x[i - 1] < x[i] ∧ Rises (x[i] :: x.drop (i + 1))) := decide_eq_decide.2 (rises_two _ _ _)
    rw [hd, e2]
    by_cases hc : x[i - 1] ≥ x[i]
    · refine Ev.step (f := fun _ => some _) (fun k => ?_) (Ev.now _)
      simp only [cloisterref01_Rises.l0, hw]
      rw [if_pos (by omega), if_pos (by omega), if_pos (by omega), if_pos (by omega), rd_nat hlt1, rd_nat hlt, if_pos hc]
      congr 1
      symm
      rw [decide_eq_false_iff_not]
      rintro ⟨h1, _⟩
      omega
    · refine Ev.step (f := fun k => cloisterref01_Rises.l0 k x ((i + 1 : Nat) : Int)) (fun k => ?_) ?_
      · simp only [cloisterref01_Rises.l0, hw]
        rw [if_pos (by omega), if_pos (by omega), if_pos (by omega), if_pos (by omega), rd_nat hlt1, rd_nat hlt, if_neg hc, w64s hlt (by omega)]
      · have : decide (x[i - 1] < x[i] ∧ Rises (x[i] :: x.drop (i + 1))) = decide (Rises (x[i] :: x.drop (i + 1))) := by
          rw [decide_eq_decide]
          exact ⟨fun h => h.2, fun h => ⟨by omega, h⟩⟩
        rw [this]
        exact ih'
theorem rises_ev (x : List Int) (hl : x.length ≤ 17592186044415) : Ev (fun k => cloisterref01_Rises.f k x) (decide (Rises x)) := by
  have := rises_l0 x hl (x.length - 1) 1 (by omega) (by omega)
  rw [show x.drop (1 - 1) = x from List.drop_zero] at this
  exact this
def CatsAt (x t : List Int) : Prop := Rises x ∧ ∀ c ∈ t, 1 ≤ c ∧ c ≤ 2147483647
instance (x t : List Int) : Decidable (CatsAt x t) := inferInstanceAs (Decidable (_ ∧ _))
theorem rcats_l0 (x : List Int) (hl : x.length ≤ 17592186044415) : ∀ (d i : Nat), x.length - i = d → i ≤ x.length → Ev (fun k => cloisterref02_Cats.l0 k x (i : Int)) (decide (CatsAt x (x.drop i))) := by
  intro d
  induction d with
  | zero =>
    intro i h hi
    have : decide (CatsAt x (x.drop i)) = decide (Rises x) := by
      rw [decide_eq_decide, List.drop_of_length_le (by omega)]
      simp [CatsAt]
    rw [this]
    refine Ev.step (f := fun k => (cloisterref01_Rises.f k x).bind fun t => some t) (fun k => ?_) (Ev.bind (rises_ev x hl) (Ev.now _))
    simp only [cloisterref02_Cats.l0]
    rw [if_neg (by omega)]
  | succ d ih =>
    intro i h hi
    have hlt : i < x.length := by omega
    rw [List.drop_eq_getElem_cons hlt]
    by_cases h1 : x[i] < 1
    · refine Ev.step (f := fun _ => some _) (fun k => ?_) (Ev.now _)
      simp only [cloisterref02_Cats.l0]
      rw [if_pos (by omega), if_pos (by omega), rd_nat hlt, if_pos h1]
      congr 1
      symm
      rw [decide_eq_false_iff_not]
      rintro ⟨_, hp⟩
      have := hp x[i] List.mem_cons_self
      omega
    · by_cases h2 : x[i] > 2147483647
      · refine Ev.step (f := fun _ => some _) (fun k => ?_) (Ev.now _)
        simp only [cloisterref02_Cats.l0]
        rw [if_pos (by omega), if_pos (by omega), rd_nat hlt, if_neg h1, if_pos h2]
        congr 1
        symm
        rw [decide_eq_false_iff_not]
        rintro ⟨_, hp⟩
        have := hp x[i] List.mem_cons_self
        omega
      · have : decide (CatsAt x (x[i] :: x.drop (i + 1))) = decide (CatsAt x (x.drop (i + 1))) := by
          rw [decide_eq_decide]
          unfold CatsAt
          refine and_congr_right fun _ => ⟨fun h c hc => h c (List.mem_cons_of_mem _ hc), fun h c hc => ?_⟩
          rcases List.mem_cons.1 hc with rfl | hc
          · omega
          · exact h c hc
        rw [this]
        refine Ev.step (f := fun k => cloisterref02_Cats.l0 k x ((i + 1 : Nat) : Int)) (fun k => ?_) (ih (i + 1) (by omega) (by omega))
        simp only [cloisterref02_Cats.l0]
        rw [if_pos (by omega), if_pos (by omega), rd_nat hlt, if_neg h1, if_neg h2, w64s hlt (by omega)]
theorem rcats_ev (x : List Int) (hl : x.length ≤ 17592186044415) : Ev (fun k => cloisterref02_Cats.f k x) (decide (Cats x)) := rcats_l0 x hl x.length 0 (by omega) (by omega)
theorem may_ev (s i : List Int) : Ev (fun k => cloisterref02_May.f k s i) (decide (May s i)) := by
  unfold cloisterref02_May.f
  by_cases h1 : s.length ≤ 64
  · simp only [if_pos (show (s.length : Int) ≤ 64 by omega)]
    by_cases h2 : i.length ≤ 64
    · simp only [if_pos (show (i.length : Int) ≤ 64 by omega)]
      refine Ev.bind (rcats_ev s (by omega)) ?_
      by_cases h3 : Cats s
      · refine Ev.congr (fun k => if_pos (decide_eq_true h3)) (Ev.bind (rcats_ev i (by omega)) ?_)
        rw [show decide (May s i) = decide (Cats i) from decide_eq_decide.2 ⟨fun h => h.2.2.2, fun h => ⟨h1, h2, h3, h⟩⟩]
        exact Ev.now _
      · rw [decide_eq_false (fun h : May s i => h3 h.2.2.1)]
        exact Ev.congr (fun k => if_neg (by simp [h3])) (Ev.now _)
    · simp only [if_neg (show ¬ (i.length : Int) ≤ 64 by omega)]
      rw [decide_eq_false (fun h : May s i => h2 h.2.1)]
      exact Ev.now _
  · simp only [if_neg (show ¬ (s.length : Int) ≤ 64 by omega)]
    rw [decide_eq_false (fun h : May s i => h1 h.1)]
    exact Ev.now _
end Go.Proofs.Ytclhddldbfdfdaa.Sempt
