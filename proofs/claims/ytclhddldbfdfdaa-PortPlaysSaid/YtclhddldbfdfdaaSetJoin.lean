/- set.Join at ints. -/
import Derived.Test.YtclhddldbfdfdaaSetCat
namespace Go.Proofs.Ytclhddldbfdfdaa.SetW
open Go.RowKit Go.Sort Go.Proofs.YtclhddldbfdfdaaW.PrintWords Go.Proofs.Ytclhddldbfdfdaa.SetF Go.Proofs.Ytclhddldbfdfdaa.OwnPut
set_option linter.unusedVariables false
set_option linter.unusedSimpArgs false

set_option maxHeartbeats 4000000 in
set_option maxRecDepth 100000 in
theorem join_calls (A0 : Option Addr) (c0 : Nat) (l0 : List Int) (A1 : Option Addr) (c1 : Nat) (l1 : List Int) (w : World) (hr0 : Kd.C (Kd.int .i64) w A0 l0.length l0) (hr1 : Kd.C (Kd.int .i64) w A1 l1.length l1) (hb : (l0.length + l1.length) * 8 ≤ 140737488355328) :
    Calls Try.prog 35 #[.slice A0 l0.length c0, .slice A1 l1.length c1] w (SlicePost w (joinL l0 l1)) := by
  have H0 := Aside0.mk hr0; have H1 := Aside0.mk hr1; have HL := Aside0.mk hb
  clear hr0 hr1 hb
  go_enter Try.func35, Try.ntmps35
  go_wp2_with (first
    | (go_at_call 46; refine (concat_calls w.heap.size 2 A0 c0 l0 A1 c1 l1 _ (heap_alloc_new w _) (Kd.C_alloc H0.out _) (Kd.C_alloc H1.out _) HL.out).mono ?_; go_loud (rintro e w1 ⟨v1, rfl, hR, hb⟩; obtain ⟨Ac, cc, hc, ec, hC⟩ := Kd.R_reads hR; subst hc; have HB := Aside0.mk (below_step (below_alloc (Below.refl _ _) _) hb); have HOF := Aside0.mk (show Calls Try.prog 45 #[.slice Ac (l0.length + l1.length) cc] w1 (SlicePost w1 (joinL l0 l1)) from by rw [show l0.length + l1.length = (l0 ++ l1).length from List.length_append.symm]; exact of_calls Ac cc (l0 ++ l1) w1 hC ec (by have := HL.out; simp only [List.length_append] at *; omega)); clear hR hb hC ec))
    | (go_at_call 45; refine HOF.out.mono ?_; rintro e w2 ⟨v2, rfl, hR2, hb2⟩; have HR2 := Aside0.mk (Kd.R_lower hR2 (below_size HB.out)); have HB2 := Aside0.mk (below_step HB.out hb2); clear hR2 hb2))
  go_ret
  exact ⟨_, rfl, HR2.out, HB2.out⟩
end Go.Proofs.Ytclhddldbfdfdaa.SetW
