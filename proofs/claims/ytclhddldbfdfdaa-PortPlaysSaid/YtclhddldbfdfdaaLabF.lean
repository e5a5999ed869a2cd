/- Labels, plainly: sets of categories, what may flow. No program. -/
import Derived.Test.YtclhddldbfdfdaaSetF
namespace Go.Proofs.Ytclhddldbfdfdaa.LabF
open Go.Proofs.Ytclhddldbfdfdaa.SetF
instance (l : List Int) : Decidable (Rises l) := inferInstanceAs (Decidable (l.Pairwise (· < ·)))
/-- A set of categories. -/
def Cats (l : List Int) : Prop := Rises l ∧ ∀ c ∈ l, 1 ≤ c ∧ c ≤ 2147483647
instance (l : List Int) : Decidable (Cats l) := inferInstanceAs (Decidable (_ ∧ _))
def From (last : Int) (m : List Int) : Prop := Rises (last :: m) ∧ ∀ c ∈ m, c ≤ 2147483647
instance (last : Int) (l : List Int) : Decidable (From last l) := inferInstanceAs (Decidable (_ ∧ _))
theorem from_cons {last x : Int} {m : List Int} (h1 : ¬ x ≤ last) (h2 : ¬ x > 2147483647) : From last (x :: m) ↔ From x m := by
  unfold From Rises
  constructor
  · rintro ⟨a, b⟩
    exact ⟨(List.pairwise_cons.1 a).2, fun c hc => b c (List.mem_cons_of_mem _ hc)⟩
  · rintro ⟨a, b⟩
    refine ⟨List.pairwise_cons.2 ⟨fun c hc => ?_, a⟩, fun c hc => ?_⟩
    · rcases List.mem_cons.1 hc with rfl | hc
      · omega
      · have := (List.pairwise_cons.1 a).1 c hc; omega
    · rcases List.mem_cons.1 hc with rfl | hc
      · omega
      · exact b c hc
theorem from_cats (l : List Int) : From 0 l ↔ Cats l := by
  unfold From Cats Rises
  rw [List.pairwise_cons]
  constructor
  · rintro ⟨⟨a, b⟩, c⟩
    exact ⟨b, fun x hx => ⟨by have := a x hx; omega, c x hx⟩⟩
  · rintro ⟨b, c⟩
    exact ⟨⟨fun x hx => by have := (c x hx).1; omega, b⟩, fun x hx => (c x hx).2⟩
def May (s i : List Int) : Prop := s.length ≤ 64 ∧ i.length ≤ 64 ∧ Cats s ∧ Cats i
instance (s i : List Int) : Decidable (May s i) := inferInstanceAs (Decidable (_ ∧ _ ∧ _ ∧ _))
def chkL (s i : List Int) : Int := if May s i then 0 else 20
def lacksL (as_ ai bs bi : List Int) : List Int := joinL (keptL as_ bs false) (keptL bi ai false)
def Within (a b : List Int) : Prop := ∀ x ∈ a, x ∈ b
instance (a b : List Int) : Decidable (Within a b) := inferInstanceAs (Decidable (∀ x ∈ a, x ∈ b))
def flowsL (as_ ai bs bi own : List Int) : List Int × Int :=
  if ¬ (May as_ ai ∧ May bs bi) then ([], 20) else if ¬ Cats own then ([], 1) else if ¬ Within (lacksL as_ ai bs bi) own then ([], 21) else (lacksL as_ ai bs bi, 0)
theorem within_less (a b : List Int) : (keptL a b false).length = 0 ↔ Within a b := by
  rw [List.length_eq_zero_iff]
  constructor
  · intro h x hx
    refine Classical.byContradiction fun hn => ?_
    have : x ∈ keptL a b false := mem_less.2 ⟨hx, hn⟩
    rw [h] at this
    cases this
  · intro h
    refine List.eq_nil_iff_forall_not_mem.2 fun x hx => ?_
    obtain ⟨h1, h2⟩ := mem_less.1 hx
    exact h2 (h x h1)
theorem mem_lacks {as_ ai bs bi : List Int} {x : Int} : x ∈ lacksL as_ ai bs bi ↔ (x ∈ as_ ∧ x ∉ bs) ∨ (x ∈ bi ∧ x ∉ ai) := by unfold lacksL; rw [mem_joinL, mem_less, mem_less]
theorem lacks_rises (as_ ai bs bi : List Int) : Rises (lacksL as_ ai bs bi) := joinL_rises _ _
theorem kept_len (a b : List Int) (i : Bool) : (keptL a b i).length ≤ a.length := Nat.le_trans (by unfold keptL; exact List.length_filter_le _ _) (ofL_len a)
theorem join_len (a b : List Int) : (joinL a b).length ≤ a.length + b.length := by unfold joinL; have := ofL_len (a ++ b); simpa using this
theorem lacks_len (as_ ai bs bi : List Int) : (lacksL as_ ai bs bi).length ≤ as_.length + bi.length := by
  have := join_len (keptL as_ bs false) (keptL bi ai false)
  have := kept_len as_ bs false
  have := kept_len bi ai false
  unfold lacksL; omega
theorem lacks_cats {as_ ai bs bi : List Int} (ha : May as_ ai) (hb : May bs bi) : Cats (lacksL as_ ai bs bi) := ⟨lacks_rises _ _ _ _, fun c hc => by
  rcases mem_lacks.1 hc with h | h
  · exact ha.2.2.1.2 c h.1
  · exact hb.2.2.2.2 c h.1⟩
end Go.Proofs.Ytclhddldbfdfdaa.LabF
