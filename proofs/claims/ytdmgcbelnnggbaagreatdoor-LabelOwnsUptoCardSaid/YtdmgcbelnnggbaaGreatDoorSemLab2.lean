/- What the reference's functions on labels come to, and slices.Equal, label.Same, the law's flows. -/
import Derived.Test.YtdmgcbelnnggbaaGreatDoorSemLab
import Derived.Test.YtdmgcbelnnggbaaGreatDoorPlabx6
namespace Go.Proofs.YtdmgcbelnnggbaaGreatDoor.Semlab
open Go.RowKit Go.Proofs.YtdmgcbelnnggbaaGreatDoorW.PrintWords Go.Proofs.YtdmgcbelnnggbaaGreatDoor.Plab Go.Proofs.YtdmgcbelnnggbaaGreatDoor.SetF Go.Proofs.YtdmgcbelnnggbaaGreatDoor.LabF
set_option linter.unusedVariables false
theorem rises_two (a b : Int) (t : List Int) : Rises (a :: b :: t) ↔ a < b ∧ Rises (b :: t) := by
  unfold Rises
  constructor
  · intro h
    exact ⟨(List.pairwise_cons.1 h).1 b List.mem_cons_self, (List.pairwise_cons.1 h).2⟩
  · rintro ⟨h1, h2⟩
    refine List.pairwise_cons.2 ⟨fun c hc => ?_, h2⟩
    rcases List.mem_cons.1 hc with rfl | hc
    · exact h1
    · have := (List.pairwise_cons.1 h2).1 c hc; omega
theorem rises_l0 (x : List Int) (hl : x.length ≤ 1099511627776) : ∀ (d i : Nat), x.length - i = d → 1 ≤ i → Ev (fun k => cloisterref01_Rises.l0 k x (i : Int)) (decide (Rises (x.drop (i - 1)))) := by
  intro d
  induction d with
  | zero =>
    intro i h hi
    refine Ev.step (f := fun _ => some _) (fun k => ?_) (Ev.now _)
    simp only [cloisterref01_Rises.l0]
    rw [if_neg (by omega)]
    congr 1
    symm
    rw [decide_eq_true_eq]
    have : (x.drop (i - 1)).length ≤ 1 := by rw [List.length_drop]; omega
    unfold Rises
    match hx : x.drop (i - 1) with
    | [] => exact List.Pairwise.nil
    | [a] => exact List.pairwise_singleton _ _
    | a :: b :: t => rw [hx] at this; simp at this
  | succ d ih =>
    intro i h hi
    have hlt : i < x.length := by omega
    have hlt1 : i - 1 < x.length := by omega
    have hw : wrap64 ((i : Int) - 1) = ((i - 1 : Nat) : Int) := by unfold wrap64; omega
    have hd : x.drop (i - 1) = x[i - 1] :: x[i] :: x.drop (i + 1) := by
      rw [List.drop_eq_getElem_cons hlt1]
      congr 1
      rw [show i - 1 + 1 = i by omega]
      exact List.drop_eq_getElem_cons hlt
    have hd2 : x.drop (i + 1 - 1) = x[i] :: x.drop (i + 1) := by
      rw [show i + 1 - 1 = i by omega]
      exact List.drop_eq_getElem_cons hlt
    have ih' := ih (i + 1) (by omega) (by omega)
    rw [hd2] at ih'
    have e2 : decide (Rises (x[i - 1] :: x[i] :: x.drop (i + 1))) = decide (x[i - 1] < x[i] ∧ Rises (x[i] :: x.drop (i + 1))) := decide_eq_decide.2 (rises_two _ _ _)
    rw [hd, e2]
    by_cases hc : x[i - 1] ≥ x[i]
    · refine Ev.step (f := fun _ => some _) (fun k => ?_) (Ev.now _)
      simp only [cloisterref01_Rises.l0, hw]
      rw [if_pos (by omega), if_pos (by omega), if_pos (by omega), if_pos (by omega), rd_nat hlt1, rd_nat hlt, if_pos hc]
      congr 1
      symm
      rw [decide_eq_false_iff_not]
      rintro ⟨h1, _⟩
      omega
    · refine Ev.step (f := fun k => cloisterref01_Rises.l0 k x ((i + 1 : Nat) : Int)) (fun k => ?_) ?_
      · simp only [cloisterref01_Rises.l0, hw]
        rw [if_pos (by omega), if_pos (by omega), if_pos (by omega), if_pos (by omega), rd_nat hlt1, rd_nat hlt, if_neg hc, w64s hlt (by omega)]
      · have : decide (x[i - 1] < x[i] ∧ Rises (x[i] :: x.drop (i + 1))) = decide (Rises (x[i] :: x.drop (i + 1))) := by
          rw [decide_eq_decide]
          exact ⟨fun h => h.2, fun h => ⟨by omega, h⟩⟩
        rw [this]
        exact ih'
theorem rises_ev (x : List Int) (hl : x.length ≤ 1099511627776) : Ev (fun k => cloisterref01_Rises.f k x) (decide (Rises x)) := by
  have := rises_l0 x hl (x.length - 1) 1 (by omega) (by omega)
  rw [show x.drop (1 - 1) = x from List.drop_zero] at this
  exact this
def CatsAt (x t : List Int) : Prop := Rises x ∧ ∀ c ∈ t, 1 ≤ c ∧ c ≤ 2147483647
instance (x t : List Int) : Decidable (CatsAt x t) := inferInstanceAs (Decidable (_ ∧ _))
theorem rcats_l0 (x : List Int) (hl : x.length ≤ 1099511627776) : ∀ (d i : Nat), x.length - i = d → i ≤ x.length → Ev (fun k => cloisterref02_Cats.l0 k x (i : Int)) (decide (CatsAt x (x.drop i))) := by
  intro d
  induction d with
  | zero =>
    intro i h hi
    have : decide (CatsAt x (x.drop i)) = decide (Rises x) := by
      rw [decide_eq_decide, List.drop_of_length_le (by omega)]
      simp [CatsAt]
    rw [this]
    refine Ev.step (f := fun k => (cloisterref01_Rises.f k x).bind fun t => some t) (fun k => ?_) (Ev.bind (rises_ev x hl) (Ev.now _))
    simp only [cloisterref02_Cats.l0]
    rw [if_neg (by omega)]
  | succ d ih =>
    intro i h hi
    have hlt : i < x.length := by omega
    rw [List.drop_eq_getElem_cons hlt]
    by_cases h1 : x[i] < 1
    · refine Ev.step (f := fun _ => some _) (fun k => ?_) (Ev.now _)
      simp only [cloisterref02_Cats.l0]
      rw [if_pos (by omega), if_pos (by omega), rd_nat hlt, if_pos h1]
      congr 1
      symm
      rw [decide_eq_false_iff_not]
      rintro ⟨_, hp⟩
      have := hp x[i] List.mem_cons_self
      omega
    · by_cases h2 : x[i] > 2147483647
      · refine Ev.step (f := fun _ => some _) (fun k => ?_) (Ev.now _)
        simp only [cloisterref02_Cats.l0]
        rw [if_pos (by omega), if_pos (by omega), rd_nat hlt, if_neg h1, if_pos h2]
        congr 1
        symm
        rw [decide_eq_false_iff_not]
        rintro ⟨_, hp⟩
        have := hp x[i] List.mem_cons_self
        omega
      · have : decide (CatsAt x (x[i] :: x.drop (i + 1))) = decide (CatsAt x (x.drop (i + 1))) := by
          rw [decide_eq_decide]
          unfold CatsAt
          refine and_congr_right fun _ => ⟨fun h c hc => h c (List.mem_cons_of_mem _ hc), fun h c hc => ?_⟩
          rcases List.mem_cons.1 hc with rfl | hc
          · omega
          · exact h c hc
        rw [this]
        refine Ev.step (f := fun k => cloisterref02_Cats.l0 k x ((i + 1 : Nat) : Int)) (fun k => ?_) (ih (i + 1) (by omega) (by omega))
        simp only [cloisterref02_Cats.l0]
        rw [if_pos (by omega), if_pos (by omega), rd_nat hlt, if_neg h1, if_neg h2, w64s hlt (by omega)]
theorem rcats_ev (x : List Int) (hl : x.length ≤ 1099511627776) : Ev (fun k => cloisterref02_Cats.f k x) (decide (Cats x)) := rcats_l0 x hl x.length 0 (by omega) (by omega)
theorem may_ev (s i : List Int) : Ev (fun k => cloisterref02_May.f k s i) (decide (May s i)) := by
  unfold cloisterref02_May.f
  by_cases h1 : s.length ≤ 64
  · simp only [if_pos (show (s.length : Int) ≤ 64 by omega)]
    by_cases h2 : i.length ≤ 64
    · simp only [if_pos (show (i.length : Int) ≤ 64 by omega)]
      refine Ev.bind (rcats_ev s (by omega)) ?_
      by_cases h3 : Cats s
      · refine Ev.congr (fun k => if_pos (decide_eq_true h3)) (Ev.bind (rcats_ev i (by omega)) ?_)
        rw [show decide (May s i) = decide (Cats i) from decide_eq_decide.2 ⟨fun h => h.2.2.2, fun h => ⟨h1, h2, h3, h⟩⟩]
        exact Ev.now _
      · rw [decide_eq_false (fun h : May s i => h3 h.2.2.1)]
        exact Ev.congr (fun k => if_neg (by simp [h3])) (Ev.now _)
    · simp only [if_neg (show ¬ (i.length : Int) ≤ 64 by omega)]
      rw [decide_eq_false (fun h : May s i => h2 h.2.1)]
      exact Ev.now _
  · simp only [if_neg (show ¬ (s.length : Int) ≤ 64 by omega)]
    rw [decide_eq_false (fun h : May s i => h1 h.1)]
    exact Ev.now _
theorem rcheck_ev (s i : List Int) : Ev (fun k => cloisterref02_Check.f k s i) (chkL s i) := by
  unfold cloisterref02_Check.f chkL
  refine Ev.bind (may_ev s i) ?_
  by_cases h : May s i
  · rw [if_pos h]; exact Ev.congr (fun k => if_pos (decide_eq_true h)) (Ev.now _)
  · rw [if_neg h]; exact Ev.congr (fun k => if_neg (by simp [h])) (Ev.now _)
theorem alike_ev (s i t j : List Int) (h1 : s.length ≤ 1099511627776) (h2 : i.length ≤ 1099511627776) : Ev (fun k => cloisterref02_Alike.f k s i t j) (decide (s = t ∧ i = j)) := by
  unfold cloisterref02_Alike.f
  refine Ev.bind (same_ev s t (by omega)) ?_
  by_cases h : s = t
  · refine Ev.congr (fun k => if_pos (decide_eq_true h)) (Ev.bind (same_ev i j (by omega)) ?_)
    rw [show decide (s = t ∧ i = j) = decide (i = j) from decide_eq_decide.2 ⟨fun h => h.2, fun h' => ⟨h, h'⟩⟩]
    exact Ev.now _
  · rw [decide_eq_false (fun h' : s = t ∧ i = j => h h'.1)]
    exact Ev.congr (fun k => if_neg (by simp [h])) (Ev.now _)
theorem lawflows_ev (as_ ai bs bi : List Int) : Ev (fun k => cloisterlaw02_flows.f k as_ ai bs bi) ((flowsL as_ ai bs bi []).2 == 0) := by
  unfold cloisterlaw02_flows.f
  exact Ev.bind (flows_ev as_ ai bs bi [] (by simp)) (Ev.now _)
theorem rlacks_ev (as_ ai bs bi : List Int) (h0 : as_.length ≤ 64) (h1 : ai.length ≤ 64) (h2 : bs.length ≤ 64) (h3 : bi.length ≤ 64) : Ev (fun k => cloisterref02_Lacks.f k as_ ai bs bi) (lacksL as_ ai bs bi) := by
  unfold cloisterref02_Lacks.f
  have k1 := kept_len as_ bs false
  have k2 := kept_len bi ai false
  exact Ev.bind (less_ev as_ bs (by omega) (by omega)) (Ev.bind (less_ev bi ai (by omega) (by omega)) (Ev.bind (join_ev _ _ (by omega)) (Ev.now _)))
theorem rflows_ev (as_ ai bs bi own : List Int) (ho : own.length ≤ 1099511627776) : Ev (fun k => cloisterref02_Flows.f k as_ ai bs bi own) (flowsL as_ ai bs bi own) := by
  unfold cloisterref02_Flows.f
  refine Ev.bind (may_ev as_ ai) ?_
  unfold flowsL
  by_cases h1 : May as_ ai
  · refine Ev.congr (fun k => if_pos (decide_eq_true h1)) (Ev.bind (may_ev bs bi) ?_)
    by_cases h2 : May bs bi
    · rw [if_neg (not_not_intro ⟨h1, h2⟩)]
      refine Ev.step (f := fun k => (cloisterref02_Cats.f k own).bind fun t204 => (if t204 = true then ((cloisterref02_Lacks.f k as_ ai bs bi).bind fun t205 => ((cloisterref01_Within.f k t205 own).bind fun t208 => (if t208 = true then (some (t205, 0)) else (some (([] : List Int), 21))))) else (some (([] : List Int), 1)))) (fun k => ?_) ?_
      · simp only [cloisterref02_Flows.j0]
        rw [if_neg (by simp [h2])]
      · refine Ev.bind (rcats_ev own ho) ?_
        by_cases h3 : Cats own
        · rw [if_neg (not_not_intro h3)]
          have hl := lacks_len as_ ai bs bi
          have l1 := h1.1; have l2 := h1.2.1; have l3 := h2.1; have l4 := h2.2.1
          refine Ev.congr (fun k => if_pos (decide_eq_true h3)) (Ev.bind (rlacks_ev as_ ai bs bi h1.1 h1.2.1 h2.1 h2.2.1) (Ev.bind (within_ev _ _ (by omega) ho) ?_))
          have hw := within_less (lacksL as_ ai bs bi) own
          by_cases h4 : Within (lacksL as_ ai bs bi) own
          · rw [if_neg (not_not_intro h4)]
            exact Ev.congr (fun k => if_pos (by simp only [beq_iff_eq]; have := hw.2 h4; omega)) (Ev.now _)
          · rw [if_pos h4]
            exact Ev.congr (fun k => if_neg (by simp only [beq_iff_eq]; intro e; exact h4 (hw.1 (by omega)))) (Ev.now _)
        · rw [if_pos h3]
          exact Ev.congr (fun k => if_neg (by simp [h3])) (Ev.now _)
    · rw [if_pos (fun h => h2 h.2)]
      refine Ev.step (f := fun _ => some _) (fun k => ?_) (Ev.now _)
      simp only [cloisterref02_Flows.j0]
      rw [if_pos (by simp [h2])]
  · rw [if_pos (fun h => h1 h.1)]
    refine Ev.congr (fun k => if_neg (by simp [h1])) ?_
    refine Ev.step (f := fun _ => some _) (fun k => ?_) (Ev.now _)
    simp only [cloisterref02_Flows.j0]
    exact if_pos trivial
def sameL (as_ ai bs bi : List Int) : Bool × Int := if May as_ ai ∧ May bs bi then (decide (as_ = bs ∧ ai = bi), 0) else (false, 20)
theorem rsame_ev (as_ ai bs bi : List Int) : Ev (fun k => cloisterref02_Same.f k as_ ai bs bi) (sameL as_ ai bs bi) := by
  unfold cloisterref02_Same.f sameL
  refine Ev.bind (may_ev as_ ai) ?_
  by_cases h1 : May as_ ai
  · have l1 := h1.1; have l2 := h1.2.1
    refine Ev.congr (fun k => if_pos (decide_eq_true h1)) (Ev.bind (may_ev bs bi) ?_)
    by_cases h2 : May bs bi
    · rw [if_pos ⟨h1, h2⟩]
      exact Ev.congr (fun k => if_pos (decide_eq_true h2)) (Ev.bind (alike_ev as_ ai bs bi (by omega) (by omega)) (Ev.now _))
    · rw [if_neg (fun h => h2 h.2)]
      exact Ev.congr (fun k => if_neg (by simp [h2])) (Ev.now _)
  · rw [if_neg (fun h => h1 h.1)]
    exact Ev.congr (fun k => if_neg (by simp [h1])) (Ev.now _)
theorem equal_l0 (a b : List Int) (hab : a.length = b.length) (hm : a.length ≤ 1099511627776) : ∀ (d i : Nat), a.length - i = d → i ≤ a.length → Ev (fun k => slices_Equal_int_int.l0 k a b (a.length : Int) (i : Int)) (decide (a.drop i = b.drop i)) := by
  intro d
  induction d with
  | zero =>
    intro i h hi
    refine Ev.step (f := fun _ => some _) (fun k => ?_) (Ev.now _)
    simp only [slices_Equal_int_int.l0]
    rw [if_neg (by omega), List.drop_of_length_le (by omega), List.drop_of_length_le (by omega)]; rfl
  | succ d ih =>
    intro i h hi
    have ha : i < a.length := by omega
    have hb : i < b.length := by omega
    rw [List.drop_eq_getElem_cons ha, List.drop_eq_getElem_cons hb]
    by_cases he : a[i] = b[i]
    · have : decide (a[i] :: a.drop (i + 1) = b[i] :: b.drop (i + 1)) = decide (a.drop (i + 1) = b.drop (i + 1)) := by
        rw [decide_eq_decide, he]
        exact ⟨fun h => (List.cons.inj h).2, fun h => by rw [h]⟩
      rw [this]
      refine Ev.step (f := fun k => slices_Equal_int_int.l0 k a b (a.length : Int) ((i + 1 : Nat) : Int)) (fun k => ?_) (ih (i + 1) (by omega) (by omega))
      simp only [slices_Equal_int_int.l0]
      rw [if_pos (by omega), if_pos (by omega), if_pos (by omega), if_pos (by omega), rd_nat ha, rd_nat hb, if_pos he, w64s ha (by omega)]
    · refine Ev.step (f := fun _ => some _) (fun k => ?_) (Ev.now _)
      simp only [slices_Equal_int_int.l0]
      rw [if_pos (by omega), if_pos (by omega), if_pos (by omega), if_pos (by omega), rd_nat ha, rd_nat hb, if_neg he]
      congr 1
      symm
      rw [decide_eq_false_iff_not]
      exact fun e => he (List.cons.inj e).1
theorem equal_ev (a b : List Int) (hm : a.length ≤ 1099511627776) : Ev (fun k => slices_Equal_int_int.f k a b) (decide (a = b)) := by
  unfold slices_Equal_int_int.f
  by_cases h : a.length = b.length
  · simp only [if_pos (show (a.length : Int) = (b.length : Int) by omega)]
    exact equal_l0 a b h hm a.length 0 (by omega) (by omega)
  · simp only [if_neg (show ¬ (a.length : Int) = (b.length : Int) by omega)]
    rw [decide_eq_false (fun e : a = b => h (by rw [e]))]
    exact Ev.now _
theorem same2_ev (as_ ai bs bi : List Int) : Ev (fun k => label_Same.f k as_ ai bs bi) (sameL as_ ai bs bi) := by
  unfold label_Same.f sameL
  refine Ev.bind (both_ev as_ ai bs bi) ?_
  by_cases h : May as_ ai ∧ May bs bi
  · have l1 := h.1.1; have l2 := h.1.2.1
    rw [if_pos h]
    refine Ev.congr (fun k => if_pos (decide_eq_true h)) (Ev.bind (equal_ev as_ bs (by omega)) ?_)
    by_cases he : as_ = bs
    · rw [show decide (as_ = bs ∧ ai = bi) = decide (ai = bi) from decide_eq_decide.2 ⟨fun h => h.2, fun h' => ⟨he, h'⟩⟩]
      exact Ev.congr (fun k => if_pos (decide_eq_true he)) (Ev.bind (equal_ev ai bi (by omega)) (Ev.now _))
    · rw [decide_eq_false (fun h' : as_ = bs ∧ ai = bi => he h'.1)]
      exact Ev.congr (fun k => if_neg (by simp [he])) (Ev.now _)
  · rw [if_neg h]
    exact Ev.congr (fun k => if_neg (by simp only [decide_eq_true_eq]; exact h)) (Ev.now _)
end Go.Proofs.YtdmgcbelnnggbaaGreatDoor.Semlab
