/- A literal of ints in a block; a slice of one. -/
import Derived.Test.YtclhddldbfdfdaaHandBase
import Derived.Test.YtclhddldbfdfdaaWMore
namespace Go.Proofs.Ytclhddldbfdfdaa.Hand
open Go.RowKit Go.Proofs.YtclhddldbfdfdaaW.PrintWords
set_option linter.unusedVariables false
theorem lit_ints (W : World) (g : Nat) (l : List Int) (hl : l.length ≤ 1048576) (h : W.heap[g]? = some (.cells (l.map (Value.int .i64)).toArray 3 (0, 0))) : Kd.C (Kd.int .i64) W (some ⟨g, 0, none⟩) l.length l := by
  have ho : W.ownsRow 0 3 1 (.slice (some ⟨g, 0, none⟩) l.length l.length) l.length (l.map (Value.int .i64)) := ⟨by simp, .inr ⟨g, l.length, _, rfl, Nat.zero_le _, h, Nat.le_refl _, by simp only [maxLen]; omega, by simp, by rw [Nat.mul_one, List.toList_toArray, List.take_of_length_le (by simp)]⟩⟩
  have hR : Kd.R (Kd.int .i64) 3 W 0 (fun _ => True) (.slice (some ⟨g, 0, none⟩) l.length l.length) l := Kd.R_of_own (h1 := fun _ => rfl) (ok := fun _ => True) ho (fun _ _ => trivial)
  obtain ⟨A, c, e, _, hC⟩ := Kd.R_reads hR
  injection e with e1
  exact e1 ▸ hC
theorem lit1 (W : World) (x : Int) : Kd.C (Kd.int .i64) (W.alloc (.cells #[.int .i64 x] 3)) (some ⟨W.heap.size, 0, none⟩) 1 [x] := lit_ints _ _ [x] (by simp) (heap_alloc_new W _)
theorem lit_texts (W : World) (g : Nat) (l : List ByteArray) (hl : l.length ≤ 1048577) (h : W.heap[g]? = some (.cells (l.map Value.string).toArray 9 (0, 0))) : Kd.C Kd.string W (some ⟨g, 0, none⟩) l.length l := by
  have ho : W.ownsRow 0 9 1 (.slice (some ⟨g, 0, none⟩) l.length l.length) l.length (l.map Value.string) := ⟨by simp, .inr ⟨g, l.length, _, rfl, Nat.zero_le _, h, Nat.le_refl _, by simp only [maxLen]; omega, by simp, by rw [Nat.mul_one, List.toList_toArray, List.take_of_length_le (by simp)]⟩⟩
  have hR : Kd.R Kd.string 9 W 0 (fun _ => True) (.slice (some ⟨g, 0, none⟩) l.length l.length) l := Kd.R_of_own (h1 := fun _ => rfl) (ok := fun _ => True) ho (fun _ _ => trivial)
  obtain ⟨A, c, e, _, hC⟩ := Kd.R_reads hR
  injection e with e1
  exact e1 ▸ hC
end Go.Proofs.Ytclhddldbfdfdaa.Hand
