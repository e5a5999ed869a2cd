/- strings.Join by the library's contract, in the print's form. -/
import Derived.Test.YthphoifaingbkaaHandBase
import Derived.Test.YthphoifaingbkaaShelf
namespace Go.Proofs.Ythphoifaingbkaa.Hand
open Go.RowKit Go.Proofs.YthphoifaingbkaaW.PrintWords
def joinF (l0 : List ByteArray) (a1 : ByteArray) : Option ByteArray := if (Lib.join (l0.map (·.data.toList)) a1.data.toList).length ≤ 140737488355328 then (if l0.length ≤ 140737488355328 then some ⟨(Lib.join (l0.map (·.data.toList)) a1.data.toList).toArray⟩ else none) else none
theorem join_calls (A0 : Option Addr) (c0 : Nat) (l0 : List ByteArray) (a1 : ByteArray) (r : ByteArray) (w : World) (hr0 : Kd.C Kd.string w A0 l0.length l0) (hc0 : l0.length ≤ c0) (h : joinF l0 a1 = some r) :
    Calls Try.prog 18 #[.slice A0 l0.length c0, .string a1] w fun e w' => e = .returned (.string r) ∧ Below w.heap.size w w' := by
  unfold joinF at h
  split at h
  · split at h
    · rename_i hlen hN
      obtain rfl := Option.some.inj h
      by_cases hp : 0 < l0.length
      · obtain ⟨b, o, rfl, hb, hcells⟩ := strings_at hr0 hp
        exact Try.strings_Join b o c0 l0 a1 w hcells hb hN hc0 hlen
      · obtain rfl : l0 = [] := List.eq_nil_of_length_eq_zero (by omega)
        exact (Try.strings_Join_none A0 c0 a1 w).mono fun e w' ⟨he, hw⟩ => ⟨he, hw ▸ Below.refl _ _⟩
    · cases h
  · cases h
end Go.Proofs.Ythphoifaingbkaa.Hand
