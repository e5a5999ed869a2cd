/- Sets of texts as lists that rise strictly. No program. -/
import Derived.Test.YtpidbaaojgdpmaaSetF
import Derived.Lib.SlicesS
namespace Go.Proofs.Ytpidbaaojgdpmaa.SetFS
open Go.Lib Go.Proofs.Ytpidbaaojgdpmaa.SetF
set_option linter.unusedVariables false
abbrev tol (b : ByteArray) : List UInt8 := b.data.toList
abbrev bal (l : List UInt8) : ByteArray := ⟨l.toArray⟩
theorem bal_tol (b : ByteArray) : bal (tol b) = b := rfl
theorem tol_bal (l : List UInt8) : tol (bal l) = l := rfl
theorem tol_inj {a b : ByteArray} (h : tol a = tol b) : a = b := by rw [← bal_tol a, h]
instance decMemB (x : ByteArray) (b : List ByteArray) : Decidable (x ∈ b) := if h : tol x ∈ b.map tol then isTrue (by obtain ⟨y, hy, e⟩ := List.mem_map.1 h; exact tol_inj e ▸ hy) else isFalse fun hx => h (List.mem_map.2 ⟨x, hx, rfl⟩)
theorem map_tol_bal (l : List (List UInt8)) : (l.map bal).map tol = l := by rw [List.map_map]; exact List.map_id _
theorem map_bal_tol (l : List ByteArray) : (l.map tol).map bal = l := by rw [List.map_map]; exact List.map_id _
def lt (a b : ByteArray) : Prop := tol a < tol b
instance : DecidableRel lt := fun a b => inferInstanceAs (Decidable (tol a < tol b))
theorem lt_irrefl (a : ByteArray) : ¬ lt a a := List.lt_irrefl _
theorem lt_trans {a b c : ByteArray} (h : lt a b) (h2 : lt b c) : lt a c := List.lt_trans h h2
theorem lt_total {a b : ByteArray} (h : ¬ lt a b) : a = b ∨ lt b a := by
  rcases List.le_iff_lt_or_eq.1 (List.not_lt.1 h) with h | h
  · exact .inr h
  · exact .inl (tol_inj h).symm
def RisesB (l : List ByteArray) : Prop := l.Pairwise lt
theorem risesB_ext {l m : List ByteArray} (hl : RisesB l) (hm : RisesB m) (h : ∀ x, x ∈ l ↔ x ∈ m) : l = m := sorted_ext (lt := lt) (fun a b c h1 h2 => lt_trans h1 h2) (fun a => lt_irrefl a) hl hm h
def srt (l : List ByteArray) : List (List UInt8) := (l.map tol).mergeSort fun x y => decide (x ≤ y)
/-- The set of a list. -/
def ofB (l : List ByteArray) : List ByteArray := (compact (srt l)).map bal
theorem srt_len (l : List ByteArray) : (srt l).length = l.length := by simp [srt]
theorem ofB_tol (l : List ByteArray) : (ofB l).map tol = compact (srt l) := map_tol_bal _
theorem ofB_spec (l : List ByteArray) : RisesB (ofB l) ∧ ∀ x, x ∈ ofB l ↔ x ∈ l := by
  have hs : (srt l).Pairwise (· ≤ ·) := by
    have := List.pairwise_mergeSort (le := fun x y : List UInt8 => decide (x ≤ y)) (fun a b c h1 h2 => decide_eq_true (List.le_trans (of_decide_eq_true h1) (of_decide_eq_true h2))) (fun a b => by simpa using List.le_total a b) (l.map tol)
    exact this.imp (fun h => by simpa using h)
  have h := compact_sorted (le := fun a b : List UInt8 => a ≤ b) (fun a b h1 h2 => List.le_antisymm h1 h2) (fun a b c h1 h2 => List.le_trans h1 h2) (fun a => List.le_refl a) _ hs
  refine ⟨?_, fun x => ?_⟩
  · unfold RisesB ofB
    rw [List.pairwise_map]
    refine h.1.imp (fun {a b} h => ?_)
    show tol (bal a) < tol (bal b)
    rcases List.le_iff_lt_or_eq.1 h.1 with h1 | h1
    · exact h1
    · exact absurd h1 h.2
  · unfold ofB
    rw [List.mem_map]
    constructor
    · rintro ⟨y, hy, rfl⟩
      rw [h.2] at hy
      obtain ⟨z, hz, rfl⟩ := List.mem_map.1 (List.mem_mergeSort.1 hy)
      exact hz
    · intro hx
      exact ⟨tol x, (h.2 _).2 (List.mem_mergeSort.2 (List.mem_map.2 ⟨x, hx, rfl⟩)), rfl⟩
def joinB (a b : List ByteArray) : List ByteArray := ofB (a ++ b)
def keptB (a b : List ByteArray) (inn : Bool) : List ByteArray := (ofB a).filter fun x => decide (x ∈ b) == inn
theorem ofB_rises (l : List ByteArray) : RisesB (ofB l) := (ofB_spec l).1
theorem mem_ofB {l : List ByteArray} {x : ByteArray} : x ∈ ofB l ↔ x ∈ l := (ofB_spec l).2 x
theorem joinB_rises (a b : List ByteArray) : RisesB (joinB a b) := ofB_rises _
theorem mem_joinB {a b : List ByteArray} {x : ByteArray} : x ∈ joinB a b ↔ x ∈ a ∨ x ∈ b := by unfold joinB; rw [mem_ofB, List.mem_append]
theorem keptB_rises (a b : List ByteArray) (i : Bool) : RisesB (keptB a b i) := List.Pairwise.filter _ (ofB_rises a)
theorem mem_meetB {a b : List ByteArray} {x : ByteArray} : x ∈ keptB a b true ↔ x ∈ a ∧ x ∈ b := by unfold keptB; rw [List.mem_filter, mem_ofB]; simp
theorem mem_lessB {a b : List ByteArray} {x : ByteArray} : x ∈ keptB a b false ↔ x ∈ a ∧ x ∉ b := by unfold keptB; rw [List.mem_filter, mem_ofB]; simp
theorem ofB_len (l : List ByteArray) : (ofB l).length ≤ l.length := by
  unfold ofB compact compactUpTo
  rw [List.length_map, List.length_map]
  refine Nat.le_trans (List.length_filter_le _ _) ?_
  rw [List.length_range, srt_len]; exact Nat.le_refl _
theorem keptB_len (a b : List ByteArray) (i : Bool) : (keptB a b i).length ≤ a.length := Nat.le_trans (by unfold keptB; exact List.length_filter_le _ _) (ofB_len a)
theorem joinB_len (a b : List ByteArray) : (joinB a b).length ≤ a.length + b.length := by unfold joinB; have := ofB_len (a ++ b); simpa using this
end Go.Proofs.Ytpidbaaojgdpmaa.SetFS
