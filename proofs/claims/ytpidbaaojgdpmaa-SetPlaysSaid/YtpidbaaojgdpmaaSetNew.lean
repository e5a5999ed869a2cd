/- set.New, Within, and awake. -/
import Derived.Test.YtpidbaaojgdpmaaSetObj
import Derived.Test.YtpidbaaojgdpmaaPbasex
namespace Go.Proofs.Ytpidbaaojgdpmaa.SetW
open Go.RowKit Go.Sort Go.Proofs.YtpidbaaojgdpmaaW.PrintWords Go.Proofs.YtpidbaaojgdpmaaW.PrintMore Go.Proofs.Ytpidbaaojgdpmaa.SetF Go.Proofs.Ytpidbaaojgdpmaa.OwnPut
set_option linter.unusedVariables false
set_option linter.unusedSimpArgs false
def boxOf (room : Int) (v : Value) : Obj := .cells #[.int .i64 room, v] 49 (0, 0)
set_option maxHeartbeats 4000000 in
set_option maxRecDepth 100000 in
theorem new_calls (room : Int) (h0 : 1 ≤ room) (h1 : room ≤ 64) (w : World) :
    Calls Try.prog 30 #[.int .i64 room] w fun e w' => e = .returned (.tuple #[.pointer (some ⟨w.heap.size, 0, none⟩), .int .i64 0]) ∧ w.alloc (boxOf room (.slice none 0 0)) = w' := by
  have d0 : decide (room < 1) = false := decide_eq_false (by omega)
  have d1 : decide (room > 64) = false := decide_eq_false (by omega)
  have d2 : decide (64 < room) = false := decide_eq_false (by omega)
  go_enter Try.func30, Try.ntmps30
  go_wp2
  go_ret2
  exact ⟨rfl, rfl⟩
set_option maxHeartbeats 4000000 in
set_option maxRecDepth 100000 in
theorem new_not (room : Int) (h : ¬ (1 ≤ room ∧ room ≤ 64)) (w : World) :
    Calls Try.prog 30 #[.int .i64 room] w fun e w' => e = .returned (.tuple #[.pointer none, .int .i64 1]) ∧ w = w' := by
  by_cases h0 : room < 1
  · have d0 : decide (room < 1) = true := decide_eq_true h0
    clear h
    go_enter Try.func30, Try.ntmps30
    go_wp2
    go_ret2
    exact ⟨rfl, rfl⟩
  · have d0 : decide (room < 1) = false := decide_eq_false h0
    have d1 : decide (room > 64) = true := decide_eq_true (by omega)
    have d2 : decide (64 < room) = true := decide_eq_true (by omega)
    clear h
    go_enter Try.func30, Try.ntmps30
    go_wp2
    go_ret2
    exact ⟨rfl, rfl⟩
set_option maxHeartbeats 4000000 in
set_option maxRecDepth 100000 in
theorem within_calls (A0 : Option Addr) (c0 : Nat) (l0 : List Int) (A1 : Option Addr) (c1 : Nat) (l1 : List Int) (w : World) (hr0 : Kd.C (Kd.int .i64) w A0 l0.length l0) (hc0 : l0.length ≤ c0) (hr1 : Kd.C (Kd.int .i64) w A1 l1.length l1) (hc1 : l1.length ≤ c1) (hb0 : l0.length * 8 ≤ 140737488355328) (hb1 : l1.length * 8 ≤ 140737488355328) :
    Calls Try.prog 15 #[.slice A0 l0.length c0, .slice A1 l1.length c1] w fun e w' => e = .returned (.bool (((keptL l0 l1 false).length : Int) == 0)) ∧ Below w.heap.size w w' := by
  have HK := Aside0.mk (less_calls 0 A0 c0 l0 A1 c1 l1 _ w hr0 hc0 hr1 hc1 (if_pos ⟨hb0, hb1⟩))
  clear hr0 hc0 hr1 hc1 hb0 hb1
  generalize keptL l0 l1 false = r at *
  go_enter Try.func15, Try.ntmps15
  go_wp2_with (go_at_call 14; refine HK.out.mono ?_; rintro e w1 ⟨v1, rfl, hR, hb⟩; obtain ⟨Ar, cr, er⟩ := Kd.R_slice hR; subst er; have HB := Aside0.mk hb; clear hR hb)
  go_ret
  exact ⟨by first | rfl | simp, HB.out⟩
end Go.Proofs.Ytpidbaaojgdpmaa.SetW
