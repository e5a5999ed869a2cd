/- What the reference's functions on sets come to, with rounds enough. -/
import Derived.Test.YtclhddldbfdfdaaPptx
import Derived.Test.YtclhddldbfdfdaaSetF
namespace Go.Proofs.Ytclhddldbfdfdaa.Sempt
open Go.RowKit Go.Proofs.YtclhddldbfdfdaaW.PrintWords Go.Proofs.Ytclhddldbfdfdaa.Ppt Go.Proofs.Ytclhddldbfdfdaa.Pbase Go.Proofs.Ytclhddldbfdfdaa.SetF
set_option linter.unusedVariables false
theorem w64s {i n : Nat} (h : i < n) (hn : n ≤ 9223372036854775807) : wrap64 ((i : Int) + 1) = ((i + 1 : Nat) : Int) := by unfold wrap64; omega
theorem w64 {x : Int} (h : -9223372036854775808 ≤ x ∧ x ≤ 9223372036854775807) : wrap64 x = x := by unfold wrap64; omega
theorem rd_nat {l : List Int} {i : Nat} (h : i < l.length) : rd l (i : Int) = l[i] := by simp [rd, List.getD_eq_getElem?_getD, List.getElem?_eq_getElem h]
theorem Ev.mk' {α : Type} {g : Nat → Option α} {r : α} (K : Nat) (h : ∀ k, K ≤ k → g k = some r) : Ev g r := ⟨K, h⟩
theorem same_l0 (a b : List Int) (hab : a.length = b.length) (hm : a.length ≤ 9223372036854775807) : ∀ (d i k : Nat), a.length - i = d → i ≤ a.length → d < k → cloisterref01_Same.l0 k a b (i : Int) = some (decide (a.drop i = b.drop i)) := by
  intro d
  induction d with
  | zero =>
    intro i k h hi hk
    obtain ⟨k, rfl⟩ : ∃ m, k = m + 1 := ⟨k - 1, by omega⟩
    unfold cloisterref01_Same.l0
    rw [if_neg (by omega), List.drop_of_length_le (by omega), List.drop_of_length_le (by omega)]; rfl
  | succ d ih =>
    intro i k h hi hk
    obtain ⟨k, rfl⟩ : ∃ m, k = m + 1 := ⟨k - 1, by omega⟩
    have ha : i < a.length := by omega
    have hb : i < b.length := by omega
    unfold cloisterref01_Same.l0
    rw [if_pos (by omega), if_pos (by omega), if_pos (by omega), rd_nat ha, rd_nat hb, w64s ha hm, ih (i + 1) k (by omega) (by omega) (by omega), List.drop_eq_getElem_cons ha, List.drop_eq_getElem_cons hb]
    generalize a[i] = x, b[i] = y, a.drop (i + 1) = p, b.drop (i + 1) = q
    by_cases he : x = y <;> simp [he]
theorem same_eq (a b : List Int) (hm : a.length ≤ 9223372036854775807) (k : Nat) (hk : a.length < k) : cloisterref01_Same.f k a b = some (decide (a = b)) := by
  unfold cloisterref01_Same.f
  by_cases h : a.length = b.length
  · rw [if_pos (by omega)]
    simpa using same_l0 a b h hm a.length 0 k (by omega) (by omega) hk
  · rw [if_neg (by omega)]
    have : a ≠ b := fun e => h (by rw [e])
    simp [this]
theorem same_ev (a b : List Int) (hm : a.length ≤ 9223372036854775807) : Ev (fun k => cloisterref01_Same.f k a b) (decide (a = b)) := ⟨a.length + 1, fun k hk => same_eq a b hm k (by omega)⟩
theorem same_ev_t {a b : List Int} (h : a = b) (hm : a.length ≤ 9223372036854775807) : Ev (fun k => cloisterref01_Same.f k a b) true := by have := same_ev a b hm; rwa [decide_eq_true h] at this
theorem has_l0 (a : List Int) (x : Int) (hm : a.length ≤ 9223372036854775807) : ∀ (d i k : Nat), a.length - i = d → i ≤ a.length → d < k → cloisterref01_Has.l0 k a x (i : Int) = some (decide (x ∈ a.drop i)) := by
  intro d
  induction d with
  | zero =>
    intro i k h hi hk
    obtain ⟨k, rfl⟩ : ∃ m, k = m + 1 := ⟨k - 1, by omega⟩
    unfold cloisterref01_Has.l0
    rw [if_neg (by omega), List.drop_of_length_le (by omega)]; simp
  | succ d ih =>
    intro i k h hi hk
    obtain ⟨k, rfl⟩ : ∃ m, k = m + 1 := ⟨k - 1, by omega⟩
    have ha : i < a.length := by omega
    unfold cloisterref01_Has.l0
    rw [if_pos (by omega), if_pos (by omega), rd_nat ha, w64s ha hm, List.drop_eq_getElem_cons ha]
    by_cases he : a[i] = x
    · rw [if_pos he]; simp [he]
    · rw [if_neg he, ih (i + 1) k (by omega) (by omega) (by omega)]
      congr 1
      rw [decide_eq_decide, List.mem_cons]
      exact ⟨.inr, fun h => h.resolve_left (Ne.symm he)⟩
theorem has_ev (a : List Int) (x : Int) (hm : a.length ≤ 9223372036854775807) : Ev (fun k => cloisterref01_Has.f k a x) (decide (x ∈ a)) :=
  ⟨a.length + 1, fun k hk => by unfold cloisterref01_Has.f; simpa using has_l0 a x hm a.length 0 k (by omega) (by omega) (by omega)⟩
def insV (v : Int) : List Int → List Int
  | [] => [v]
  | y :: ys => if v < y then v :: y :: ys else y :: insV v ys
theorem mem_insV {v x : Int} : ∀ {l : List Int}, x ∈ insV v l ↔ x = v ∨ x ∈ l
  | [] => by simp [insV]
  | y :: ys => by
    unfold insV
    split
    · simp
    · rw [List.mem_cons, mem_insV, List.mem_cons]
      constructor
      · rintro (h | h | h)
        · exact .inr (.inl h)
        · exact .inl h
        · exact .inr (.inr h)
      · rintro (h | h | h)
        · exact .inr (.inl h)
        · exact .inl h
        · exact .inr (.inr h)
theorem insV_rises {v : Int} : ∀ {l : List Int}, Rises l → v ∉ l → Rises (insV v l)
  | [], _, _ => by unfold insV Rises; simp
  | y :: ys, h, hv => by
    obtain ⟨h1, h2⟩ := List.pairwise_cons.1 h
    have hne : v ≠ y := fun e => hv (e ▸ List.mem_cons_self)
    unfold insV
    split
    · rename_i hlt
      refine List.pairwise_cons.2 ⟨fun z hz => ?_, h⟩
      rcases List.mem_cons.1 hz with rfl | hz
      · exact hlt
      · have := h1 z hz; omega
    · rename_i hlt
      refine List.pairwise_cons.2 ⟨fun z hz => ?_, insV_rises h2 (fun hm => hv (List.mem_cons_of_mem _ hm))⟩
      rcases mem_insV.1 hz with rfl | hz
      · omega
      · exact h1 z hz
theorem of_l1 (x0 out : List Int) (i : Nat) (hi : i < x0.length) (hx : x0.length ≤ 17592186044415) (ho : out.length ≤ x0.length) (r : List Int) : ∀ (d j : Nat) (nxt : List Int) (dn : Bool), out.length - j = d → j ≤ out.length → nxt.length ≤ j + (if dn then 1 else 0) →
    Ev (fun k => cloisterref01_Of.l0 k x0 (nxt ++ (if dn then out.drop j else insV x0[i] (out.drop j))) ((i + 1 : Nat) : Int)) r → Ev (fun k => cloisterref01_Of.l1 k x0 out (i : Int) nxt dn (j : Int)) r := by
  intro d
  induction d with
  | zero =>
    intro j nxt dn h hj hl hr
    refine Ev.step (fun k => ?_) hr
    simp only [cloisterref01_Of.l1]
    rw [if_neg (by omega), w64s hi (by omega), rd_nat hi, List.drop_of_length_le (by omega)]
    cases dn
    · simp only [Bool.false_eq_true, if_false, Nat.add_zero] at hl ⊢
      rw [if_pos (by omega), if_pos (by omega), if_pos (by omega)]; rfl
    · simp only [if_true, List.append_nil]
  | succ d ih =>
    intro j nxt dn h hj hl hr
    have hlt : j < out.length := by omega
    cases dn
    · simp only [Bool.false_eq_true, if_false, Nat.add_zero] at hl hr
      rw [List.drop_eq_getElem_cons hlt] at hr
      by_cases hv : x0[i] < out[j]
      · refine Ev.step (f := fun k => cloisterref01_Of.l1 k x0 out (i : Int) (nxt ++ [x0[i]] ++ [out[j]]) true ((j + 1 : Nat) : Int)) (fun k => ?_) (ih (j + 1) (nxt ++ [x0[i]] ++ [out[j]]) true (by omega) (by omega) (by simp; omega) ?_)
        · simp only [cloisterref01_Of.l1]
          rw [if_pos (by omega), if_neg (by simp), if_pos (by omega), if_pos (by omega), if_pos (by omega), rd_nat hi, rd_nat hlt, if_pos hv, if_pos (by omega)]
          simp only [Option.bind_some]
          rw [if_pos (by simp; omega), w64s hlt (by omega)]
        · simp only [insV, if_pos hv] at hr
          simpa using hr
      · refine Ev.step (f := fun k => cloisterref01_Of.l1 k x0 out (i : Int) (nxt ++ [out[j]]) false ((j + 1 : Nat) : Int)) (fun k => ?_) (ih (j + 1) (nxt ++ [out[j]]) false (by omega) (by omega) (by simp; omega) ?_)
        · simp only [cloisterref01_Of.l1]
          rw [if_pos (by omega), if_neg (by simp), if_pos (by omega), if_pos (by omega), if_pos (by omega), rd_nat hi, rd_nat hlt, if_neg hv, if_pos (by omega), w64s hlt (by omega)]
        · simp only [insV, if_neg hv] at hr
          simpa using hr
    · simp only [if_true] at hl hr
      rw [List.drop_eq_getElem_cons hlt] at hr
      refine Ev.step (f := fun k => cloisterref01_Of.l1 k x0 out (i : Int) (nxt ++ [out[j]]) true ((j + 1 : Nat) : Int)) (fun k => ?_) (ih (j + 1) (nxt ++ [out[j]]) true (by omega) (by omega) (by simp; omega) ?_)
      · simp only [cloisterref01_Of.l1]
        rw [if_pos (by omega), if_pos trivial, if_pos (by omega), if_pos (by omega), rd_nat hlt, w64s hlt (by omega)]
      · simpa using hr
theorem of_l0 (x0 : List Int) (hx : x0.length ≤ 17592186044415) : ∀ (d i : Nat), x0.length - i = d → i ≤ x0.length → Ev (fun k => cloisterref01_Of.l0 k x0 (ofL (x0.take i)) (i : Int)) (ofL x0) := by
  intro d
  induction d with
  | zero =>
    intro i h hi
    refine Ev.step (f := fun _ => some (ofL x0)) (fun k => ?_) (Ev.now _)
    simp only [cloisterref01_Of.l0]
    rw [if_neg (by omega), List.take_of_length_le (by omega)]
  | succ d ih =>
    intro i h hi
    have hlt : i < x0.length := by omega
    have hol : (ofL (x0.take i)).length ≤ x0.length := Nat.le_trans (ofL_len _) (by simp; omega)
    have hi' := ih (i + 1) (by omega) (by omega)
    have ht : x0.take (i + 1) = x0.take i ++ [x0[i]] := by rw [List.take_succ_eq_append_getElem hlt]
    refine Ev.step (f := fun k => (cloisterref01_Has.f k (ofL (x0.take i)) x0[i]).bind fun t => if t = true then cloisterref01_Of.l0 k x0 (ofL (x0.take i)) ((i + 1 : Nat) : Int) else cloisterref01_Of.l1 k x0 (ofL (x0.take i)) (i : Int) [] false ((0 : Nat) : Int)) (fun k => ?_) (Ev.bind (has_ev (ofL (x0.take i)) x0[i] (by omega)) ?_)
    · simp only [cloisterref01_Of.l0]
      rw [if_pos (by omega), if_pos (by omega), rd_nat hlt, w64s hlt (by omega)]; rfl
    · by_cases hm : x0[i] ∈ ofL (x0.take i)
      · refine Ev.congr (fun k => if_pos (decide_eq_true hm)) ?_
        have : ofL (x0.take i) = ofL (x0.take (i + 1)) := rises_ext (ofL_rises _) (ofL_rises _) fun x => by
          rw [mem_ofL, mem_ofL, ht, List.mem_append, List.mem_singleton]
          refine ⟨.inl, fun h => h.elim id fun e => ?_⟩
          rw [e]; exact mem_ofL.1 hm
        rw [this]; exact hi'
      · refine Ev.congr (fun k => if_neg (by simp [hm])) ?_
        refine of_l1 x0 _ i hlt hx hol _ _ 0 [] false rfl (Nat.zero_le _) (by simp) ?_
        have : ([] : List Int) ++ (if (false : Bool) then (ofL (x0.take i)).drop 0 else insV x0[i] ((ofL (x0.take i)).drop 0)) = ofL (x0.take (i + 1)) := by
          simp only [Bool.false_eq_true, if_false, List.drop_zero, List.nil_append]
          refine rises_ext (insV_rises (ofL_rises _) hm) (ofL_rises _) fun x => ?_
          rw [mem_insV, mem_ofL, mem_ofL, ht, List.mem_append, List.mem_singleton]
          exact Or.comm
        rw [this]; exact hi'
theorem of_ev (l : List Int) (hl : l.length ≤ 17592186044415) : Ev (fun k => cloisterref01_Of.f k l) (ofL l) := by
  have := of_l0 l hl l.length 0 (by omega) (by omega)
  have e : ofL (l.take 0) = [] := ofL_of_rises (l := []) List.Pairwise.nil
  rw [e] at this
  exact this
theorem of_filter (a b : List Int) (i : Bool) : ofL (a.filter fun x => decide (x ∈ b) == i) = keptL a b i := rises_ext (ofL_rises _) (keptL_rises _ _ _) fun x => by
  rw [mem_ofL, List.mem_filter]
  cases i
  · rw [mem_less]; simp
  · rw [mem_meet]; simp
theorem less_l0 (a b : List Int) (ha : a.length ≤ 17592186044415) (hb : b.length ≤ 17592186044415) : ∀ (d i : Nat), a.length - i = d → i ≤ a.length → Ev (fun k => cloisterref01_Less.l0 k a b ((a.take i).filter fun x => decide (x ∈ b) == false) (i : Int)) (keptL a b false) := by
  intro d
  induction d with
  | zero =>
    intro i h hi
    have e : a.take i = a := List.take_of_length_le (by omega)
    rw [e, ← of_filter]
    refine Ev.step (f := fun k => (cloisterref01_Of.f k (a.filter fun x => decide (x ∈ b) == false)).bind fun t => some t) (fun k => ?_) (Ev.bind (of_ev _ (Nat.le_trans (List.length_filter_le _ _) ha)) (Ev.now _))
    simp only [cloisterref01_Less.l0]
    rw [if_neg (by omega)]
  | succ d ih =>
    intro i h hi
    have hlt : i < a.length := by omega
    have hi' := ih (i + 1) (by omega) (by omega)
    have hfl : ((a.take i).filter fun x => decide (x ∈ b) == false).length ≤ a.length := Nat.le_trans (List.length_filter_le _ _) (by simp; omega)
    refine Ev.step (f := fun k => (cloisterref01_Has.f k b a[i]).bind fun t => if t = true then cloisterref01_Less.l0 k a b ((a.take i).filter fun x => decide (x ∈ b) == false) ((i + 1 : Nat) : Int) else cloisterref01_Less.l0 k a b (((a.take i).filter fun x => decide (x ∈ b) == false) ++ [a[i]]) ((i + 1 : Nat) : Int)) (fun k => ?_) (Ev.bind (has_ev b a[i] (by omega)) ?_)
    · simp only [cloisterref01_Less.l0]
      rw [if_pos (by omega), if_pos (by omega), rd_nat hlt, w64s hlt (by omega)]
      congr 1; funext t
      rw [if_pos (show ((a.take i).filter fun x => decide (x ∈ b) == false).length < 17592186044416 by omega)]
    · rw [List.take_succ_eq_append_getElem hlt, List.filter_append] at hi'
      by_cases hm : a[i] ∈ b
      · refine Ev.congr (fun k => if_pos (decide_eq_true hm)) ?_
        simpa [hm] using hi'
      · refine Ev.congr (fun k => if_neg (by simp [hm])) ?_
        simpa [hm] using hi'
theorem less_ev (a b : List Int) (ha : a.length ≤ 17592186044415) (hb : b.length ≤ 17592186044415) : Ev (fun k => cloisterref01_Less.f k a b) (keptL a b false) := less_l0 a b ha hb a.length 0 (by omega) (by omega)
theorem within_ev (a b : List Int) (ha : a.length ≤ 17592186044415) (hb : b.length ≤ 17592186044415) : Ev (fun k => cloisterref01_Within.f k a b) (((keptL a b false).length : Int) == 0) := Ev.bind (less_ev a b ha hb) (Ev.now _)
end Go.Proofs.Ytclhddldbfdfdaa.Sempt
