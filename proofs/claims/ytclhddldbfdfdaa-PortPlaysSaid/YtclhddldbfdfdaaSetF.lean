/- Sets as lists that rise strictly: told by what is in them; what sorting and Compact make of a list. No program. -/
import Derived.Lib.SlicesCompact
namespace Go.Proofs.Ytclhddldbfdfdaa.SetF
open Go.Lib
set_option linter.unusedVariables false
section
variable {α : Type} {lt : α → α → Prop}
theorem sorted_ext (tr : ∀ a b c, lt a b → lt b c → lt a c) (ir : ∀ a, ¬ lt a a) : ∀ {l m : List α}, l.Pairwise lt → m.Pairwise lt → (∀ x, x ∈ l ↔ x ∈ m) → l = m
  | [], [], _, _, _ => rfl
  | [], y :: m, _, _, h => absurd ((h y).2 List.mem_cons_self) (by simp)
  | x :: l, [], _, _, h => absurd ((h x).1 List.mem_cons_self) (by simp)
  | x :: l, y :: m, hl, hm, h => by
    have hl' := List.pairwise_cons.1 hl
    have hm' := List.pairwise_cons.1 hm
    have e : x = y := by
      rcases List.mem_cons.1 ((h x).1 List.mem_cons_self) with e | hx
      · exact e
      · rcases List.mem_cons.1 ((h y).2 List.mem_cons_self) with e | hy
        · exact e.symm
        · exact absurd (tr _ _ _ (hl'.1 y hy) (hm'.1 x hx)) (ir x)
    subst e
    rw [sorted_ext tr ir hl'.2 hm'.2 (fun z => ?_)]
    constructor
    · intro hz
      rcases List.mem_cons.1 ((h z).1 (List.mem_cons_of_mem _ hz)) with e | hz'
      · subst e; exact absurd (hl'.1 z hz) (ir z)
      · exact hz'
    · intro hz
      rcases List.mem_cons.1 ((h z).2 (List.mem_cons_of_mem _ hz)) with e | hz'
      · subst e; exact absurd (hm'.1 z hz) (ir z)
      · exact hz'
end
section
variable {α : Type} [Inhabited α] [DecidableEq α] {le : α → α → Prop}
theorem compact_upto (an : ∀ a b, le a b → le b a → a = b) (tr : ∀ a b c, le a b → le b c → le a c) (d : Array α) (hd : ∀ i j, i ≤ j → j < d.size → le d[i]! d[j]!) :
    ∀ m, m ≤ d.size → (compactUpTo d m).Pairwise (fun a b => le a b ∧ a ≠ b) ∧ ∀ x, x ∈ compactUpTo d m ↔ ∃ j, j < m ∧ d[j]! = x := by
  intro m
  induction m with
  | zero => intro _; exact ⟨by simp [compactUpTo], fun x => ⟨fun h => by simp [compactUpTo] at h, fun ⟨j, hj, _⟩ => by omega⟩⟩
  | succ m ih =>
    intro hm
    obtain ⟨h1, h2⟩ := ih (by omega)
    rw [compactUpTo_succ]
    by_cases hk : keeps d m = true
    · rw [if_pos hk]
      refine ⟨List.pairwise_append.2 ⟨h1, by simp, fun a ha b hb => ?_⟩, fun x => ?_⟩
      · obtain ⟨j, hj, rfl⟩ := (h2 a).1 ha
        obtain rfl := List.mem_singleton.1 hb
        refine ⟨hd j m (by omega) (by omega), fun e => ?_⟩
        unfold keeps at hk
        rcases of_decide_eq_true hk with h0 | hne
        · omega
        · apply hne
          exact an _ _ (by rw [← e]; exact hd j (m - 1) (by omega) (by omega)) (hd (m - 1) m (by omega) (by omega))
      · rw [List.mem_append, h2, List.mem_singleton]
        constructor
        · rintro (⟨j, hj, e⟩ | e)
          · exact ⟨j, by omega, e⟩
          · exact ⟨m, by omega, e.symm⟩
        · rintro ⟨j, hj, e⟩
          by_cases hjm : j = m
          · subst hjm; exact .inr e.symm
          · exact .inl ⟨j, by omega, e⟩
    · rw [if_neg hk, List.append_nil]
      refine ⟨h1, fun x => ?_⟩
      rw [h2]
      have hkn : ¬ (m = 0 ∨ d[m]! ≠ d[m - 1]!) := fun h => hk (decide_eq_true h)
      constructor
      · rintro ⟨j, hj, e⟩; exact ⟨j, by omega, e⟩
      · rintro ⟨j, hj, e⟩
        by_cases hjm : j = m
        · subst hjm
          refine ⟨j - 1, by omega, ?_⟩
          rw [← e]
          exact (Classical.not_not.1 (fun h => hkn (.inr h))).symm
        · exact ⟨j, by omega, e⟩
theorem compact_sorted (an : ∀ a b, le a b → le b a → a = b) (tr : ∀ a b c, le a b → le b c → le a c) (rf : ∀ a, le a a) (l : List α) (hl : l.Pairwise le) :
    (compact l).Pairwise (fun a b => le a b ∧ a ≠ b) ∧ ∀ x, x ∈ compact l ↔ x ∈ l := by
  have hd : ∀ i j, i ≤ j → j < l.toArray.size → le l.toArray[i]! l.toArray[j]! := by
    intro i j hij hj
    have hj' : j < l.length := by simpa using hj
    rw [getElem!_pos l.toArray j hj, getElem!_pos l.toArray i (by omega)]
    simp only [List.getElem_toArray]
    by_cases e : i = j
    · subst e; exact rf _
    · exact List.pairwise_iff_getElem.1 hl i j (by omega) hj' (by omega)
  have h := compact_upto an tr l.toArray hd l.length (by simp)
  refine ⟨h.1, fun x => ?_⟩
  rw [show x ∈ compact l ↔ x ∈ compactUpTo l.toArray l.length from Iff.rfl, h.2]
  constructor
  · rintro ⟨j, hj, rfl⟩
    rw [getElem!_pos l.toArray j (by simpa using hj)]
    simp
  · intro hx
    obtain ⟨j, hj, e⟩ := List.getElem_of_mem hx
    refine ⟨j, hj, ?_⟩
    rw [getElem!_pos l.toArray j (by simpa using hj)]
    simpa using e
end
/-! Sets of ints. -/
def Rises (l : List Int) : Prop := l.Pairwise (· < ·)
theorem rises_ext {l m : List Int} (hl : Rises l) (hm : Rises m) (h : ∀ x, x ∈ l ↔ x ∈ m) : l = m := sorted_ext (lt := fun a b : Int => a < b) (fun a b c h1 h2 => Int.lt_trans h1 h2) (fun a => Int.lt_irrefl a) hl hm h
/-- The set of a list. -/
def ofL (l : List Int) : List Int := compact (l.mergeSort fun x y => decide (x ≤ y))
theorem ofL_spec (l : List Int) : Rises (ofL l) ∧ ∀ x, x ∈ ofL l ↔ x ∈ l := by
  have hs : (l.mergeSort fun x y => decide (x ≤ y)).Pairwise (· ≤ ·) := by
    have := List.pairwise_mergeSort (le := fun x y : Int => decide (x ≤ y)) (fun a b c h1 h2 => by simp at *; omega) (fun a b => by simp; omega) l
    exact this.imp (fun h => by simpa using h)
  have h := compact_sorted (le := fun a b : Int => a ≤ b) (fun a b h1 h2 => by omega) (fun a b c h1 h2 => by omega) (fun a => Int.le_refl a) _ hs
  refine ⟨h.1.imp (fun h => by omega), fun x => ?_⟩
  rw [show x ∈ ofL l ↔ x ∈ compact (l.mergeSort fun x y => decide (x ≤ y)) from Iff.rfl, h.2]
  exact List.mem_mergeSort
def joinL (a b : List Int) : List Int := ofL (a ++ b)
def keptL (a b : List Int) (inn : Bool) : List Int := (ofL a).filter fun x => decide (x ∈ b) == inn
theorem ofL_rises (l : List Int) : Rises (ofL l) := (ofL_spec l).1
theorem mem_ofL {l : List Int} {x : Int} : x ∈ ofL l ↔ x ∈ l := (ofL_spec l).2 x
theorem joinL_rises (a b : List Int) : Rises (joinL a b) := ofL_rises _
theorem mem_joinL {a b : List Int} {x : Int} : x ∈ joinL a b ↔ x ∈ a ∨ x ∈ b := by unfold joinL; rw [mem_ofL, List.mem_append]
theorem keptL_rises (a b : List Int) (i : Bool) : Rises (keptL a b i) := List.Pairwise.filter _ (ofL_rises a)
theorem mem_meet {a b : List Int} {x : Int} : x ∈ keptL a b true ↔ x ∈ a ∧ x ∈ b := by unfold keptL; rw [List.mem_filter, mem_ofL]; simp
theorem mem_less {a b : List Int} {x : Int} : x ∈ keptL a b false ↔ x ∈ a ∧ x ∉ b := by unfold keptL; rw [List.mem_filter, mem_ofL]; simp
theorem ofL_of_rises {l : List Int} (h : Rises l) : ofL l = l := rises_ext (ofL_rises l) h (fun x => mem_ofL)
theorem ofL_len (l : List Int) : (ofL l).length ≤ l.length := by
  unfold ofL compact compactUpTo
  rw [List.length_map]
  refine Nat.le_trans (List.length_filter_le _ _) ?_
  simp
end Go.Proofs.Ytclhddldbfdfdaa.SetF
