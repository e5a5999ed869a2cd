/- uri.plain, uri.digit by hand. -/
import Derived.Test.YtkaacdfikaggfaaUriF
import Derived.Test.YtkaacdfikaggfaaShelf
import Derived.Test.YtkaacdfikaggfaaBld
namespace Go.Proofs.Ytkaacdfikaggfaa.UriD
open Go.RowKit Go.Proofs.YtkaacdfikaggfaaW.PrintWords Go.Proofs.Ytkaacdfikaggfaa.Bs Go.Proofs.Ytkaacdfikaggfaa.UriF
set_option linter.unusedVariables false
set_option linter.unusedSimpArgs false

theorem idx_plain {c : Int} (hc : isByte c) : 0 ≤ Lib.indexByte [45, 46, 95, 126] (UInt8.ofNat c.toNat) ↔ (c = 45 ∨ c = 46 ∨ c = 95 ∨ c = 126) :=
  all_bytes (p := fun c => 0 ≤ Lib.indexByte [45, 46, 95, 126] (UInt8.ofNat c.toNat) ↔ (c = 45 ∨ c = 46 ∨ c = 95 ∨ c = 126)) (by decide +kernel) hc
theorem idx_digit {c : Int} (hc : isByte c) : Lib.indexByte [48, 49, 50, 51, 52, 53, 54, 55, 56, 57, 97, 98, 99, 100, 101, 102] (UInt8.ofNat (Go.bits .or .u8 c (32 * Go.bits .and .u8 (c / 64) 1 % 256)).toNat) = dig c :=
  all_bytes (p := fun c => Lib.indexByte [48, 49, 50, 51, 52, 53, 54, 55, 56, 57, 97, 98, 99, 100, 101, 102] (UInt8.ofNat (Go.bits .or .u8 c (32 * Go.bits .and .u8 (c / 64) 1 % 256)).toNat) = dig c) (by decide +kernel) hc
theorem ret_bool {a b : Bool} (h : a = b) : Ending.returned (.bool a) = .returned (.bool b) := by rw [h]
theorem ret_int {k : IntKind} {a b : Int} (h : a = b) : Ending.returned (.int k a) = .returned (.int k b) := by rw [h]

set_option maxHeartbeats 4000000 in
set_option maxRecDepth 100000 in
theorem plain_calls (c : Int) (hc : isByte c) (w : World) : Calls Try.prog 23 #[.int .u8 c] w fun e w' => e = .returned (.bool (plainB c)) ∧ w' = w := by
  have HI := Aside0.mk (idx_plain hc)
  unfold isByte at hc
  obtain ⟨h0, h1⟩ := hc
  go_enter Try.func23, Try.ntmps23
  go_wp2_with (go_at_call 33; refine (Try.strings_IndexByte _ _ _).mono ?_; rintro e w' ⟨rfl, rfl⟩)
  all_goals go_ret
  all_goals refine ⟨ret_bool ?_, rfl⟩
  all_goals (have hi := HI.out; rw [Bool.eq_iff_iff]; simp only [plainB, Bool.or_eq_true, decide_eq_true_eq, hi, true_iff, eq_self]; omega)
set_option maxHeartbeats 4000000 in
set_option maxRecDepth 100000 in
theorem digit_calls (c : Int) (hc : isByte c) (w : World) : Calls Try.prog 19 #[.int .u8 c] w fun e w' => e = .returned (.int .i64 (dig c)) ∧ w' = w := by
  have HI := Aside0.mk (idx_digit hc)
  unfold isByte at hc
  obtain ⟨h0, h1⟩ := hc
  go_enter Try.func19, Try.ntmps19
  go_wp2_with (go_at_call 33; refine (Try.strings_IndexByte _ _ _).mono ?_; rintro e w' ⟨rfl, rfl⟩)
  all_goals go_ret
  all_goals exact ⟨ret_int HI.out, rfl⟩
end Go.Proofs.Ytkaacdfikaggfaa.UriD
