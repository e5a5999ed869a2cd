/- A + written out: plain lemmas on lists of bytes. -/
import Derived.Test.YtkaacdfikaggfaaUriF
namespace Go.Proofs.Ytkaacdfikaggfaa.Sem
open Go.RowKit Go.Proofs.YtkaacdfikaggfaaW.PrintWords Go.Proofs.Ytkaacdfikaggfaa.Bs Go.Proofs.Ytkaacdfikaggfaa.UriF
set_option linter.unusedVariables false
def ex (w : List Int) (l : List Int) : List Int := l.flatMap fun c => if c = 43 then w else [c]
theorem ex_cons (w : List Int) (c : Int) (l : List Int) : ex w (c :: l) = (if c = 43 then w else [c]) ++ ex w l := rfl
theorem ex_append (w a b : List Int) : ex w (a ++ b) = ex w a ++ ex w b := by simp [ex]
/-- A + behind a percent sign. -/
def brk : List Int → Bool
  | [] => false
  | c :: r => (decide (c = 37) && (decide (r.head? = some 43) || decide (r.tail.head? = some 43))) || brk r
theorem dig_nn {c : Int} (h : ¬ dig c < 0) : c ≠ 43 ∧ c ≠ 37 := by
  constructor <;> (rintro rfl; exact h (by decide))
theorem brk_err (p : Bool) : ∀ (n : Nat) (l : List Int), l.length = n → ∀ (acc : List Int) (at_ : Int), brk l = true → (decA p l 0 acc at_).2.1 = 60 := by
  intro n
  induction n using Nat.strongRecOn with
  | _ n ih =>
  intro l hn acc at_ hb
  match l, hn with
  | [], _ => simp [brk] at hb
  | c :: r, hn =>
    rw [decA_cons]
    by_cases h37 : c = 37
    · rw [if_pos h37]
      split
      · rfl
      · rename_i h
        have hlen : 2 ≤ r.length := by omega
        match r, hlen with
        | a :: b :: r', _ =>
          have ha : ¬ dig a < 0 := fun e => h (.inr (.inl e))
          have hbd : ¬ dig b < 0 := fun e => h (.inr (.inr e))
          have := dig_nn ha
          have := dig_nn hbd
          simp only [List.length_cons] at hn
          refine ih r'.length (by omega) r' rfl _ _ ?_
          simp only [brk, List.head?_cons, List.tail_cons] at hb
          have e1 : ¬ a = 43 := (dig_nn ha).1
          have e2 : ¬ b = 43 := (dig_nn hbd).1
          have e3 : ¬ a = 37 := (dig_nn ha).2
          have e4 : ¬ b = 37 := (dig_nn hbd).2
          simpa [e1, e2, e3, e4] using hb
    · rw [if_neg h37]
      have hr : brk r = true := by simpa [brk, h37] using hb
      simp only [List.length_cons] at hn
      split <;> exact ih r.length (by omega) r rfl _ _ hr
/-- Where there is none, what is written out is read as before. -/
theorem ex_dec (p : Bool) (w : List Int) (hw : ∀ (r acc : List Int) (at_ : Int), ∃ at2, decA p (w ++ r) 0 acc at_ = decA p r 0 (acc ++ [if p = true then 32 else 43]) at2) :
    ∀ (n : Nat) (l : List Int), l.length = n → ∀ (acc : List Int) (a1 a2 : Int), brk l = false → (decA p (ex w l) 0 acc a1).1 = (decA p l 0 acc a2).1 ∧ (decA p (ex w l) 0 acc a1).2.1 = (decA p l 0 acc a2).2.1 := by
  intro n
  induction n using Nat.strongRecOn with
  | _ n ih =>
  intro l hn acc a1 a2 hb
  match l, hn with
  | [], _ => exact ⟨rfl, rfl⟩
  | c :: r, hn =>
    simp only [List.length_cons] at hn
    have hr : brk r = false := by
      simp only [brk, Bool.or_eq_false_iff] at hb
      exact hb.2
    rw [ex_cons]
    by_cases h37 : c = 37
    · subst h37
      rw [if_neg (by decide), List.singleton_append, decA_cons, decA_cons, if_pos rfl, if_pos rfl]
      match r, hn, hr, hb with
      | [], _, _, _ => exact ⟨rfl, rfl⟩
      | [a], _, _, hb =>
        have ha : a ≠ 43 := by rintro rfl; simp [brk] at hb
        rw [ex_cons, if_neg ha]
        exact ⟨rfl, rfl⟩
      | a :: b :: r', hn, hr, hb =>
        have ha : a ≠ 43 := by rintro rfl; simp [brk] at hb
        have hbb : b ≠ 43 := by rintro rfl; simp [brk] at hb
        simp only [List.length_cons] at hn
        rw [ex_cons, if_neg ha, ex_cons, if_neg hbb]
        simp only [List.singleton_append, List.getD_cons_zero, List.getD_cons_succ, List.drop_succ_cons, List.drop_zero, List.length_cons]
        by_cases hd : dig a < 0 ∨ dig b < 0
        · rw [if_pos (.inr hd), if_pos (.inr hd)]; exact ⟨rfl, rfl⟩
        · rw [if_neg (by omega), if_neg (by omega)]
          refine ih r'.length (by omega) r' rfl _ _ _ ?_
          simp only [brk, Bool.or_eq_false_iff] at hr
          exact hr.2.2
    · by_cases h43 : c = 43
      · subst h43
        rw [if_pos rfl]
        obtain ⟨a3, e⟩ := hw (ex w r) acc a1
        rw [e, decA_cons, if_neg (show ¬ (43 : Int) = 37 by decide)]
        cases p with
        | true => rw [if_pos (show true = true ∧ (43 : Int) = 43 from ⟨rfl, rfl⟩)]; exact ih r.length (by omega) r rfl _ _ _ hr
        | false => rw [if_neg (show ¬ (false = true ∧ (43 : Int) = 43) by simp)]; exact ih r.length (by omega) r rfl _ _ _ hr
      · rw [if_neg h43, List.singleton_append, decA_cons, decA_cons, if_neg h37, if_neg h37, if_neg (fun e => h43 e.2), if_neg (fun e => h43 e.2)]
        exact ih r.length (by omega) r rfl _ _ _ hr
theorem w20 (r acc : List Int) (at_ : Int) : ∃ at2, decA true ([37, 50, 48] ++ r) 0 acc at_ = decA true r 0 (acc ++ [if true = true then 32 else 43]) at2 := by
  refine ⟨at_ + 3, ?_⟩
  rw [List.cons_append, decA_cons, if_pos rfl]
  simp only [List.cons_append, List.nil_append, List.getD_cons_zero, List.getD_cons_succ, List.drop_succ_cons, List.drop_zero, List.length_cons]
  rw [if_neg (by rintro (h | h | h) <;> revert h <;> first | omega | decide)]
  rfl
theorem w2B (r acc : List Int) (at_ : Int) : ∃ at2, decA false ([37, 50, 66] ++ r) 0 acc at_ = decA false r 0 (acc ++ [if false = true then 32 else 43]) at2 := by
  refine ⟨at_ + 3, ?_⟩
  rw [List.cons_append, decA_cons, if_pos rfl]
  simp only [List.cons_append, List.nil_append, List.getD_cons_zero, List.getD_cons_succ, List.drop_succ_cons, List.drop_zero, List.length_cons]
  rw [if_neg (by rintro (h | h | h) <;> revert h <;> first | omega | decide)]
  rfl
/-- Whether there is an error does not hang on what a + is. -/
theorem dec_err : ∀ (n : Nat) (l : List Int), l.length = n → ∀ (acc acc2 : List Int) (a1 a2 : Int), (decA true l 0 acc a1).2.1 = (decA false l 0 acc2 a2).2.1 := by
  intro n
  induction n using Nat.strongRecOn with
  | _ n ih =>
  intro l hn acc acc2 a1 a2
  match l, hn with
  | [], _ => rfl
  | c :: r, hn =>
    simp only [List.length_cons] at hn
    rw [decA_cons, decA_cons]
    by_cases h37 : c = 37
    · rw [if_pos h37, if_pos h37]
      split
      · rfl
      · exact ih (r.drop 2).length (by simp; omega) (r.drop 2) rfl _ _ _ _
    · rw [if_neg h37, if_neg h37]
      split <;> split <;> exact ih r.length (by omega) r rfl _ _ _ _
end Go.Proofs.Ytkaacdfikaggfaa.Sem
