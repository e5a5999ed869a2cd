/- set.Meet, Less, Has at texts; the plain functions that the print's contracts name. -/
import Derived.Test.YtpidbaaojgdpmaaSetJoinS
namespace Go.Proofs.Ytpidbaaojgdpmaa.SetWS
open Go.RowKit Go.Sort Go.Proofs.YtpidbaaojgdpmaaW.PrintWords Go.Proofs.Ytpidbaaojgdpmaa.SetF Go.Proofs.Ytpidbaaojgdpmaa.SetFS Go.Proofs.Ytpidbaaojgdpmaa.OwnPut
set_option linter.unusedVariables false
set_option linter.unusedSimpArgs false

def joinG (k : Nat) (l0 l1 : List ByteArray) : Option (List ByteArray) := if (l0.length + l1.length) * 16 ≤ 140737488355328 then some (joinB l0 l1) else none
def keptG (inn : Bool) (k : Nat) (l0 l1 : List ByteArray) : Option (List ByteArray) := if l0.length * 16 ≤ 140737488355328 ∧ l1.length * 16 ≤ 140737488355328 then some (keptB l0 l1 inn) else none
def hasG (l0 : List ByteArray) (x : ByteArray) : Option Bool := if l0.length ≤ 9223372036854775807 then some (decide (x ∈ l0)) else none

theorem joinG_calls (k : Nat) (A0 : Option Addr) (c0 : Nat) (l0 : List ByteArray) (A1 : Option Addr) (c1 : Nat) (l1 : List ByteArray) (r : List ByteArray) (w : World) (hr0 : Kd.C Kd.string w A0 l0.length l0) (hc0 : l0.length ≤ c0) (hr1 : Kd.C Kd.string w A1 l1.length l1) (hc1 : l1.length ≤ c1) (h : joinG k l0 l1 = some r) :
    Calls Try.prog 24 #[.slice A0 l0.length c0, .slice A1 l1.length c1] w (SlicePost w r) := by
  unfold joinG at h
  split at h
  · obtain rfl := Option.some.inj h
    exact join_calls A0 c0 l0 A1 c1 l1 w hr0 hr1 (by assumption)
  · cases h
set_option maxHeartbeats 4000000 in
set_option maxRecDepth 100000 in
theorem meet_calls (k : Nat) (A0 : Option Addr) (c0 : Nat) (l0 : List ByteArray) (A1 : Option Addr) (c1 : Nat) (l1 : List ByteArray) (r : List ByteArray) (w : World) (hr0 : Kd.C Kd.string w A0 l0.length l0) (hc0 : l0.length ≤ c0) (hr1 : Kd.C Kd.string w A1 l1.length l1) (hc1 : l1.length ≤ c1) (h : keptG true k l0 l1 = some r) :
    Calls Try.prog 25 #[.slice A0 l0.length c0, .slice A1 l1.length c1] w (SlicePost w r) := by
  unfold keptG at h
  split at h
  · obtain rfl := Option.some.inj h
    have HK := Aside0.mk (kept_calls A0 c0 l0 A1 c1 l1 true w hr0 hc0 (by omega) hr1 hc1 (by omega))
    clear hr0 hc0 hr1 hc1 h
    go_enter Try.func25, Try.ntmps25
    go_wp2_with (go_at_call 45; refine HK.out.mono ?_; rintro e w1 ⟨v1, rfl, hR, hb⟩; have HR := Aside0.mk hR; have HB := Aside0.mk hb; clear hR hb)
    go_ret
    exact ⟨_, rfl, HR.out, HB.out⟩
  · cases h
set_option maxHeartbeats 4000000 in
set_option maxRecDepth 100000 in
theorem less_calls (k : Nat) (A0 : Option Addr) (c0 : Nat) (l0 : List ByteArray) (A1 : Option Addr) (c1 : Nat) (l1 : List ByteArray) (r : List ByteArray) (w : World) (hr0 : Kd.C Kd.string w A0 l0.length l0) (hc0 : l0.length ≤ c0) (hr1 : Kd.C Kd.string w A1 l1.length l1) (hc1 : l1.length ≤ c1) (h : keptG false k l0 l1 = some r) :
    Calls Try.prog 29 #[.slice A0 l0.length c0, .slice A1 l1.length c1] w (SlicePost w r) := by
  unfold keptG at h
  split at h
  · obtain rfl := Option.some.inj h
    have HK := Aside0.mk (kept_calls A0 c0 l0 A1 c1 l1 false w hr0 hc0 (by omega) hr1 hc1 (by omega))
    clear hr0 hc0 hr1 hc1 h
    go_enter Try.func29, Try.ntmps29
    go_wp2_with (go_at_call 45; refine HK.out.mono ?_; rintro e w1 ⟨v1, rfl, hR, hb⟩; have HR := Aside0.mk hR; have HB := Aside0.mk hb; clear hR hb)
    go_ret
    exact ⟨_, rfl, HR.out, HB.out⟩
  · cases h
theorem contains_calls (A : Option Addr) (c : Nat) (l : List ByteArray) (x : ByteArray) (w : World) (hC : Kd.C Kd.string w A l.length l) (hlen : l.length ≤ 9223372036854775807) :
    Calls Try.prog 46 #[.slice A l.length c, .string x] w fun e w' => e = .returned (.bool (decide (x ∈ l))) ∧ w' = w := by
  by_cases hp : 0 < l.length
  · obtain ⟨b, o, rfl, hbw, hcells⟩ := texts_at hC hp
    have := Try.slices_Contains_string b o l.length c l x w (Nat.le_refl _) hlen hcells
    rw [List.take_length] at this
    rw [← show Lib.containsS l x = decide (x ∈ l) from by rw [Bool.eq_iff_iff, Lib.containsS_iff]; simp]
    exact this
  · obtain rfl : l = [] := List.eq_nil_of_length_eq_zero (by omega)
    rw [show decide (x ∈ ([] : List ByteArray)) = false from by simp]
    exact Try.slices_Contains_string_empty A c x w
theorem containsG_calls (A0 : Option Addr) (c0 : Nat) (l0 : List ByteArray) (a1 : ByteArray) (r : Bool) (w : World) (hr0 : Kd.C Kd.string w A0 l0.length l0) (h : hasG l0 a1 = some r) :
    Calls Try.prog 46 #[.slice A0 l0.length c0, .string a1] w fun e w' => e = .returned (.bool r) ∧ Drawn0 w w' := by
  unfold hasG at h
  split at h
  · obtain rfl := Option.some.inj h
    exact (contains_calls A0 c0 l0 a1 w hr0 (by assumption)).mono fun e w' ⟨he, hw⟩ => ⟨he, by rw [hw]; exact Drawn0.refl w⟩
  · cases h
end Go.Proofs.Ytpidbaaojgdpmaa.SetWS
