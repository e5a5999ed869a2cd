/- set.Meet, Less at ints; the plain functions that the print's contracts name. -/
import Derived.Test.YtclhddldbfdfdaaSetJoin
namespace Go.Proofs.Ytclhddldbfdfdaa.SetW
open Go.RowKit Go.Sort Go.Proofs.YtclhddldbfdfdaaW.PrintWords Go.Proofs.Ytclhddldbfdfdaa.SetF Go.Proofs.Ytclhddldbfdfdaa.OwnPut
set_option linter.unusedVariables false
set_option linter.unusedSimpArgs false

def ofG (k : Nat) (l0 : List Int) : Option (List Int) := if l0.length * 8 ≤ 140737488355328 then some (ofL l0) else none
def joinG (k : Nat) (l0 l1 : List Int) : Option (List Int) := if (l0.length + l1.length) * 8 ≤ 140737488355328 then some (joinL l0 l1) else none
def keptG (inn : Bool) (k : Nat) (l0 l1 : List Int) : Option (List Int) := if l0.length * 8 ≤ 140737488355328 ∧ l1.length * 8 ≤ 140737488355328 then some (keptL l0 l1 inn) else none

theorem ofG_calls (k : Nat) (A0 : Option Addr) (c0 : Nat) (l0 : List Int) (r : List Int) (w : World) (hr0 : Kd.C (Kd.int .i64) w A0 l0.length l0) (hc0 : l0.length ≤ c0) (h : ofG k l0 = some r) :
    Calls Try.prog 45 #[.slice A0 l0.length c0] w (SlicePost w r) := by
  unfold ofG at h
  split at h
  · obtain rfl := Option.some.inj h
    exact of_calls A0 c0 l0 w hr0 hc0 (by assumption)
  · cases h
theorem joinG_calls (k : Nat) (A0 : Option Addr) (c0 : Nat) (l0 : List Int) (A1 : Option Addr) (c1 : Nat) (l1 : List Int) (r : List Int) (w : World) (hr0 : Kd.C (Kd.int .i64) w A0 l0.length l0) (hc0 : l0.length ≤ c0) (hr1 : Kd.C (Kd.int .i64) w A1 l1.length l1) (hc1 : l1.length ≤ c1) (h : joinG k l0 l1 = some r) :
    Calls Try.prog 35 #[.slice A0 l0.length c0, .slice A1 l1.length c1] w (SlicePost w r) := by
  unfold joinG at h
  split at h
  · obtain rfl := Option.some.inj h
    exact join_calls A0 c0 l0 A1 c1 l1 w hr0 hr1 (by assumption)
  · cases h
set_option maxHeartbeats 4000000 in
set_option maxRecDepth 100000 in
theorem less_calls (k : Nat) (A0 : Option Addr) (c0 : Nat) (l0 : List Int) (A1 : Option Addr) (c1 : Nat) (l1 : List Int) (r : List Int) (w : World) (hr0 : Kd.C (Kd.int .i64) w A0 l0.length l0) (hc0 : l0.length ≤ c0) (hr1 : Kd.C (Kd.int .i64) w A1 l1.length l1) (hc1 : l1.length ≤ c1) (h : keptG false k l0 l1 = some r) :
    Calls Try.prog 36 #[.slice A0 l0.length c0, .slice A1 l1.length c1] w (SlicePost w r) := by
  unfold keptG at h
  split at h
  · obtain rfl := Option.some.inj h
    have HK := Aside0.mk (kept_calls A0 c0 l0 A1 c1 l1 false w hr0 hc0 (by omega) hr1 hc1 (by omega))
    clear hr0 hc0 hr1 hc1 h
    go_enter Try.func36, Try.ntmps36
    go_wp2_with (go_at_call 47; refine HK.out.mono ?_; rintro e w1 ⟨v1, rfl, hR, hb⟩; have HR := Aside0.mk hR; have HB := Aside0.mk hb; clear hR hb)
    go_ret
    exact ⟨_, rfl, HR.out, HB.out⟩
  · cases h
end Go.Proofs.Ytclhddldbfdfdaa.SetW
