/- EpNobody. -/
import Derived.Test.YtkjdhhdkfbkgpaaEpM3
namespace Go.Proofs.Ytkjdhhdkfbkgpaa.VmW
open Go.RowKit Go.Proofs.YtkjdhhdkfbkgpaaW.PrintWords Go.Proofs.YtkjdhhdkfbkgpaaW.PrintMore Go.Proofs.YtkjdhhdkfbkgpaaW.PrintLast Go.Proofs.Ytkjdhhdkfbkgpaa.Pvm
set_option linter.unusedVariables false
set_option linter.unusedSimpArgs false
theorem aw_any {b n : Nat} (W : World) (hb : b ≤ W.heap.size) : Calls Try.prog 9 #[] W fun e W' => e = .returned (.bool true) ∧ Below b W W' := (awake_calls W).mono fun e w' h => ⟨h.1, Below.mono h.2 hb⟩
set_option maxHeartbeats 4000000 in
set_option maxRecDepth 100000 in
theorem epNobody_calls (n : Int) (s : ByteArray) (W : World) : Calls Try.prog 7 #[.int .i64 n, .string s] W fun e W' => e = .returned (.bool true) ∧ Below W.heap.size W W' := by
  go_enter Try.func7, Try.ntmps7
  go_wp2
  have hz0 := blk_alloc (heap_alloc_new W (.cells #[.slice none 0 0, .string ⟨#[]⟩, .pointer none, .pointer none, .pointer none, .pointer none, .pointer none, .pointer none, .pointer none, .pointer none, .pointer none, .pointer none, .pointer none, .pointer none, .pointer none, .pointer none, .pointer none, .pointer none, .pointer none] 67)) (.cells #[.pointer none, .pointer (some ⟨W.heap.size, 0, none⟩)] 22)
  have hz1 := heap_alloc_new (W.alloc (.cells #[.slice none 0 0, .string ⟨#[]⟩, .pointer none, .pointer none, .pointer none, .pointer none, .pointer none, .pointer none, .pointer none, .pointer none, .pointer none, .pointer none, .pointer none, .pointer none, .pointer none, .pointer none, .pointer none, .pointer none, .pointer none] 67)) (.cells #[.pointer none, .pointer (some ⟨W.heap.size, 0, none⟩)] 22)
  have hz2 : (W.alloc (.cells #[.slice none 0 0, .string ⟨#[]⟩, .pointer none, .pointer none, .pointer none, .pointer none, .pointer none, .pointer none, .pointer none, .pointer none, .pointer none, .pointer none, .pointer none, .pointer none, .pointer none, .pointer none, .pointer none, .pointer none, .pointer none] 67)).heap.size = W.heap.size + 1 := by simp
  rw [hz2] at hz1
  have hb0 := below_alloc (below_alloc (Below.refl W.heap.size W) (.cells #[.slice none 0 0, .string ⟨#[]⟩, .pointer none, .pointer none, .pointer none, .pointer none, .pointer none, .pointer none, .pointer none, .pointer none, .pointer none, .pointer none, .pointer none, .pointer none, .pointer none, .pointer none, .pointer none, .pointer none, .pointer none] 67)) (.cells #[.pointer none, .pointer (some ⟨W.heap.size, 0, none⟩)] 22)
  have hv : ∀ i : Nat, i < 2 → ∃ v, ((W.alloc (.cells #[.slice none 0 0, .string ⟨#[]⟩, .pointer none, .pointer none, .pointer none, .pointer none, .pointer none, .pointer none, .pointer none, .pointer none, .pointer none, .pointer none, .pointer none, .pointer none, .pointer none, .pointer none, .pointer none, .pointer none, .pointer none] 67)).alloc (.cells #[.pointer none, .pointer (some ⟨W.heap.size, 0, none⟩)] 22)).cell? ⟨W.heap.size + 1, i, none⟩ = some v ∧ notGiven ((W.alloc (.cells #[.slice none 0 0, .string ⟨#[]⟩, .pointer none, .pointer none, .pointer none, .pointer none, .pointer none, .pointer none, .pointer none, .pointer none, .pointer none, .pointer none, .pointer none, .pointer none, .pointer none, .pointer none, .pointer none, .pointer none, .pointer none] 67)).alloc (.cells #[.pointer none, .pointer (some ⟨W.heap.size, 0, none⟩)] 22)) v := by
    intro i hi
    match i, hi with
    | 0, _ => exact ⟨_, blk_cell hz1 0, notGiven_nil _⟩
    | 1, _ => exact ⟨_, blk_cell hz1 1, notGiven_zero (blk_lt hz0) (blk_cell hz0 0)⟩
  have HB := Aside0.mk hb0
  have hlt := blk_lt hz1
  generalize (W.alloc (.cells #[.slice none 0 0, .string ⟨#[]⟩, .pointer none, .pointer none, .pointer none, .pointer none, .pointer none, .pointer none, .pointer none, .pointer none, .pointer none, .pointer none, .pointer none, .pointer none, .pointer none, .pointer none, .pointer none, .pointer none, .pointer none] 67)).alloc _ = w1 at *
  have HV := Aside0.mk hv
  have HLT := Aside0.mk hlt
  clear hz0 hz1 hz2 hb0 hv hlt
  go_loopw [6] (fun t6 wr => ∃ i : Nat, i ≤ 2 ∧ t6 = .int .i64 (i : Int) ∧ Aside0 (Below w1.heap.size w1 wr)) (fun i _ => 2 - (intOf i).toNat)
  case atStart => exact ⟨0, by omega, rfl, Aside0.mk (Below.refl _ _)⟩
  case round =>
    obtain ⟨i, hi, rfl, HR⟩ := hrel
    by_cases hlt : i < 2
    · have i1 : (i : Int) < 2 := by omega
      obtain ⟨v, c0, hv⟩ := HV.out i hlt
      have hc : wr.cell? ⟨W.heap.size + 1, i, none⟩ = some v := (HR.out.cell (p := ⟨W.heap.size + 1, i, none⟩) HLT.out).trans c0
      have HV1 := Aside0.mk (hv.step HR.out)
      clear c0 hv
      go_wp2_with (first
      | (go_at_call 17; (with_reducible refine (run_not HV1.out n).mono ?_); rintro e w2 ⟨rfl, hb⟩; have HR2 := Aside0.mk (below_step HR.out (below_alloc hb (.cells #[.int .i64 0, .int .i64 0, .int .i64 0] 53))); have HV2 := Aside0.mk (HV1.out.step (below_alloc hb (.cells #[.int .i64 0, .int .i64 0, .int .i64 0] 53))); clear hb)
      | (go_at_call 22; (with_reducible refine (args_not HV2.out _).mono ?_); rintro e w3 ⟨rfl, rfl⟩)
      | (go_at_call 10; (with_reducible refine (text_not HV2.out _ _).mono ?_); rintro e w3 ⟨rfl, rfl⟩)
      | (go_at_call 15; (with_reducible refine (end_not HV2.out).mono ?_); rintro e w3 ⟨rfl, rfl⟩)
      | (go_at_call 16; (with_reducible refine (begin_not HV2.out _ _).mono ?_); rintro e w3 ⟨rfl, rfl⟩)
      | (go_at_call 23; (with_reducible refine (give_not HV2.out _).mono ?_); rintro e w3 ⟨rfl, rfl⟩)
      | (go_at_call 19; (with_reducible refine (busy_not HV2.out).mono ?_); rintro e w3 ⟨rfl, rfl⟩)
      | (go_at_call 24; (with_reducible refine (input_not HV2.out).mono ?_); rintro e w3 ⟨rfl, rfl⟩)
      | (go_at_call 18; (with_reducible refine (fuel_not HV2.out).mono ?_); rintro e w3 ⟨rfl, rfl⟩)
      | (go_at_call 11; (with_reducible refine (lay_not HV2.out _ _).mono ?_); rintro e w3 ⟨rfl, rfl⟩)
      | (go_at_call 12; (with_reducible refine (pages_not HV2.out).mono ?_); rintro e w3 ⟨rfl, rfl⟩)
      | (go_at_call 21; (with_reducible refine (copy_not HV2.out).mono ?_); rintro e w3 ⟨rfl, rfl⟩))
      exact ⟨⟨i + 1, by omega, by go_num, HR2⟩, by simp [intOf]; omega⟩
    · obtain rfl : i = 2 := by omega
      have i1 : ¬ ((2 : Int) < 2) := by omega
      go_wp2_with (go_at_call 9; (with_reducible refine (awake_calls _).mono ?_); rintro e w2 ⟨rfl, hb⟩; have HB2 := Aside0.mk (below_step HB.out (below_step HR.out hb)); clear hb)
      go_ret
      exact ⟨rfl, HB2.out⟩
end Go.Proofs.Ytkjdhhdkfbkgpaa.VmW
