/- set.Meet, Less, Has at ints; the plain functions that the print's contracts name. -/
import Derived.Test.YtpidbaaojgdpmaaSetJoin
namespace Go.Proofs.Ytpidbaaojgdpmaa.SetW
open Go.RowKit Go.Sort Go.Proofs.YtpidbaaojgdpmaaW.PrintWords Go.Proofs.Ytpidbaaojgdpmaa.SetF Go.Proofs.Ytpidbaaojgdpmaa.OwnPut
set_option linter.unusedVariables false
set_option linter.unusedSimpArgs false

def ofG (k : Nat) (l0 : List Int) : Option (List Int) := if l0.length * 8 ≤ 140737488355328 then some (ofL l0) else none
def joinG (k : Nat) (l0 l1 : List Int) : Option (List Int) := if (l0.length + l1.length) * 8 ≤ 140737488355328 then some (joinL l0 l1) else none
def keptG (inn : Bool) (k : Nat) (l0 l1 : List Int) : Option (List Int) := if l0.length * 8 ≤ 140737488355328 ∧ l1.length * 8 ≤ 140737488355328 then some (keptL l0 l1 inn) else none
def hasG (l0 : List Int) (x : Int) : Option Bool := if l0.length ≤ 9223372036854775807 then some (l0.contains x) else none

theorem ofG_calls (k : Nat) (A0 : Option Addr) (c0 : Nat) (l0 : List Int) (r : List Int) (w : World) (hr0 : Kd.C (Kd.int .i64) w A0 l0.length l0) (hc0 : l0.length ≤ c0) (h : ofG k l0 = some r) :
    Calls Try.prog 12 #[.slice A0 l0.length c0] w (SlicePost w r) := by
  unfold ofG at h
  split at h
  · obtain rfl := Option.some.inj h
    exact of_calls A0 c0 l0 w hr0 hc0 (by assumption)
  · cases h
theorem joinG_calls (k : Nat) (A0 : Option Addr) (c0 : Nat) (l0 : List Int) (A1 : Option Addr) (c1 : Nat) (l1 : List Int) (r : List Int) (w : World) (hr0 : Kd.C (Kd.int .i64) w A0 l0.length l0) (hc0 : l0.length ≤ c0) (hr1 : Kd.C (Kd.int .i64) w A1 l1.length l1) (hc1 : l1.length ≤ c1) (h : joinG k l0 l1 = some r) :
    Calls Try.prog 10 #[.slice A0 l0.length c0, .slice A1 l1.length c1] w (SlicePost w r) := by
  unfold joinG at h
  split at h
  · obtain rfl := Option.some.inj h
    exact join_calls A0 c0 l0 A1 c1 l1 w hr0 hr1 (by assumption)
  · cases h
set_option maxHeartbeats 4000000 in
set_option maxRecDepth 100000 in
theorem meet_calls (k : Nat) (A0 : Option Addr) (c0 : Nat) (l0 : List Int) (A1 : Option Addr) (c1 : Nat) (l1 : List Int) (r : List Int) (w : World) (hr0 : Kd.C (Kd.int .i64) w A0 l0.length l0) (hc0 : l0.length ≤ c0) (hr1 : Kd.C (Kd.int .i64) w A1 l1.length l1) (hc1 : l1.length ≤ c1) (h : keptG true k l0 l1 = some r) :
    Calls Try.prog 11 #[.slice A0 l0.length c0, .slice A1 l1.length c1] w (SlicePost w r) := by
  unfold keptG at h
  split at h
  · obtain rfl := Option.some.inj h
    have HK := Aside0.mk (kept_calls A0 c0 l0 A1 c1 l1 true w hr0 hc0 (by omega) hr1 hc1 (by omega))
    clear hr0 hc0 hr1 hc1 h
    go_enter Try.func11, Try.ntmps11
    go_wp2_with (go_at_call 38; refine HK.out.mono ?_; rintro e w1 ⟨v1, rfl, hR, hb⟩; have HR := Aside0.mk hR; have HB := Aside0.mk hb; clear hR hb)
    go_ret
    exact ⟨_, rfl, HR.out, HB.out⟩
  · cases h
set_option maxHeartbeats 4000000 in
set_option maxRecDepth 100000 in
theorem less_calls (k : Nat) (A0 : Option Addr) (c0 : Nat) (l0 : List Int) (A1 : Option Addr) (c1 : Nat) (l1 : List Int) (r : List Int) (w : World) (hr0 : Kd.C (Kd.int .i64) w A0 l0.length l0) (hc0 : l0.length ≤ c0) (hr1 : Kd.C (Kd.int .i64) w A1 l1.length l1) (hc1 : l1.length ≤ c1) (h : keptG false k l0 l1 = some r) :
    Calls Try.prog 14 #[.slice A0 l0.length c0, .slice A1 l1.length c1] w (SlicePost w r) := by
  unfold keptG at h
  split at h
  · obtain rfl := Option.some.inj h
    have HK := Aside0.mk (kept_calls A0 c0 l0 A1 c1 l1 false w hr0 hc0 (by omega) hr1 hc1 (by omega))
    clear hr0 hc0 hr1 hc1 h
    go_enter Try.func14, Try.ntmps14
    go_wp2_with (go_at_call 38; refine HK.out.mono ?_; rintro e w1 ⟨v1, rfl, hR, hb⟩; have HR := Aside0.mk hR; have HB := Aside0.mk hb; clear hR hb)
    go_ret
    exact ⟨_, rfl, HR.out, HB.out⟩
  · cases h
theorem contains_calls (A : Option Addr) (c : Nat) (l : List Int) (x : Int) (w : World) (hC : Kd.C (Kd.int .i64) w A l.length l) (hlen : l.length ≤ 9223372036854775807) :
    Calls Try.prog 42 #[.slice A l.length c, .int .i64 x] w fun e w' => e = .returned (.bool (l.contains x)) ∧ w' = w := by
  by_cases hp : 0 < l.length
  · obtain ⟨b, o, rfl, hbw, hcells⟩ := ints_at hC hp
    have := Try.slices_Contains_int b o l.length c l x w (Nat.le_refl _) hlen hcells
    rw [List.take_length] at this
    exact this
  · obtain rfl : l = [] := List.eq_nil_of_length_eq_zero (by omega)
    exact Try.slices_Contains_int_empty A c x w
theorem containsG_calls (A0 : Option Addr) (c0 : Nat) (l0 : List Int) (a1 : Int) (r : Bool) (w : World) (hr0 : Kd.C (Kd.int .i64) w A0 l0.length l0) (h : hasG l0 a1 = some r) :
    Calls Try.prog 42 #[.slice A0 l0.length c0, .int .i64 a1] w fun e w' => e = .returned (.bool r) ∧ Drawn0 w w' := by
  unfold hasG at h
  split at h
  · obtain rfl := Option.some.inj h
    exact (contains_calls A0 c0 l0 a1 w hr0 (by assumption)).mono fun e w' ⟨he, hw⟩ => ⟨he, by rw [hw]; exact Drawn0.refl w⟩
  · cases h
set_option maxHeartbeats 4000000 in
set_option maxRecDepth 100000 in
theorem has_calls (A0 : Option Addr) (c0 : Nat) (l0 : List Int) (a1 : Int) (r : Bool) (w : World) (hr0 : Kd.C (Kd.int .i64) w A0 l0.length l0) (h : hasG l0 a1 = some r) :
    Calls Try.prog 20 #[.slice A0 l0.length c0, .int .i64 a1] w fun e w' => e = .returned (.bool r) ∧ w' = w := by
  unfold hasG at h
  split at h
  · obtain rfl := Option.some.inj h
    have HC := Aside0.mk (contains_calls A0 c0 l0 a1 w hr0 (by assumption))
    clear hr0 h
    generalize l0.contains a1 = d at *
    go_enter Try.func20, Try.ntmps20
    go_wp2_with (go_at_call 42; refine HC.out.mono ?_; rintro e w1 ⟨rfl, rfl⟩)
    all_goals go_ret
    all_goals exact ⟨rfl, rfl⟩
  · cases h
end Go.Proofs.Ytpidbaaojgdpmaa.SetW
