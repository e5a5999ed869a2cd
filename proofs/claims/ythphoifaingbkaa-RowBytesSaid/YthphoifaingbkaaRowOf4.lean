/- row.Of's contract, as the print wants it. -/
import Derived.Test.YthphoifaingbkaaRowOf3
namespace Go.Proofs.Ythphoifaingbkaa.RowOf
open Go.RowKit Go.Proofs.YthphoifaingbkaaW.PrintWords Go.Proofs.Ythphoifaingbkaa.Pof
def ofG (k : Nat) (s : ByteArray) : Option (ByteArray × List ByteArray × List Int × List Int × Int × Int × Int) := if s.size ≤ 9223372036854775807 then ofF k s else none
theorem ofG_mono (k : Nat) (s : ByteArray) : LeO (ofG k s) (ofG (k + 1) s) := LeO.ite (ofF_mono k s) (LeO.refl _)
theorem ofG_calls (k : Nat) (s : ByteArray) (r1 : ByteArray) (r2 : List ByteArray) (r3 r4 : List Int) (r5 r6 r7 : Int) (w : World) (h : ofG k s = some (r1, r2, r3, r4, r5, r6, r7)) :
    Calls Try.prog 14 #[.string s] w fun e w' => ∃ v1_ v2_ v3_ : Value, e = .returned (.tuple #[.agg #[.string r1, v1_, v2_, v3_, .int .i64 r5], .int .i64 r6, .int .i64 r7]) ∧ Kd.R Kd.string 9 w' w.heap.size (fun _ => True) v1_ r2 ∧ Kd.R (Kd.int .i64) 3 w' w.heap.size (fun k_ => some k_ ≠ (v3_ : Value).ownBlock) v2_ r3 ∧ Kd.R (Kd.int .i64) 3 w' w.heap.size (fun k_ => some k_ ≠ (v2_ : Value).ownBlock) v3_ r4 ∧ Below w.heap.size w w' := by
  unfold ofG at h
  by_cases hs : s.size ≤ 9223372036854775807
  · rw [if_pos hs] at h
    exact of_calls k s hs r1 r2 r3 r4 r5 r6 r7 w h
  · rw [if_neg hs] at h; cases h
end Go.Proofs.Ythphoifaingbkaa.RowOf
