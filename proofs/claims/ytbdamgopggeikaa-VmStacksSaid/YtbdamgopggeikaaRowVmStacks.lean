/- The law VmStacks: for every input the call returns true, and each argument reads behind the call as it read before. No condition. -/
import Derived.Test.YtbdamgopggeikaaRows
import Derived.Test.YtbdamgopggeikaaOpen
import Derived.Test.YtbdamgopggeikaaPureVmStacks
import Derived.WalkKit
import Derived.ProofKit
import Derived.OpenShut
import Derived.ShutString
import Derived.ChangeOld
import Derived.Below
import Derived.SizedLaws
import Derived.KernelRfl
namespace Go.Proofs.Ytbdamgopggeikaa.vmStacks
open Go.ChangeShapes Go.WideShapes Go.ChangeAt Go.RowKit Go.Proofs.YtbdamgopggeikaaW.PrintWords Go.Proofs.Ytbdamgopggeikaa.Open Go.Proofs.Ytbdamgopggeikaa.Pvm
open Go.ChangeMaps (open_string shut_string)
set_option linter.unusedVariables false
theorem own : ownKnob Try.prog.godebug = none := by kernel_rfl
theorem laidOut : laidOutB Try.prog = true := by kernel_rfl
set_option maxHeartbeats 4000000 in
set_option maxRecDepth 100000 in
theorem lifted (os : Os) (started : os.Started) (H : Type) (enc : TypeId × Value → H) :
    ReturnsInHanded {} Try.checked os 9 .any (Rows.vmStacksSpec.pre6 enc Try.prog Try.f9 Rows.vmStacksRow.domain false) (Rows.vmStacksSpec.post enc Try.prog Try.f9 false true false false) := by
  refine returnsInHanded_of_change_sized (C := Try.checked) own started (by kernel_rfl) Try.func9
    (ChangeSpec.witness6 (enc := enc) (C := Try.checked) false ⟨#[], #[.agg #[.int .i64 0, .slice none 0 0, .slice none 0 0], .int .i64 0, .int .i64 0], []⟩ 8 (by kernel_rfl) (by kernel_rfl) (by kernel_rfl) (by kernel_rfl)) ?_
  intro W base args ds gs before hval0 hW hcnd hsz0 _
  have hsz : (DataW.weightsEach Try.prog (Try.f9.params.toList ++ Rows.vmStacksSpec.plain.varTypes Try.prog) (ds ++ gs)).all (· ≤ reachBytes) = true := hsz0
  have hval : ∀ (j : Nat) t v, Try.f9.params[j]? = some t → args[j]? = some v → Value.okWide Try.prog W .any base t v := hval0
  have hW' := hW
  obtain ⟨p, q, hA0, hV, rfl, hfz, hnd⟩ := hW
  have hA : DataW.TrodAll enc Try.prog W 0 (fun _ => true) true Try.f9.params.toList args.toList ds p := hA0
  rw [Try.params9] at hA hval hsz
  obtain ⟨v0, vs0, d0, ds0, p0, q0, hargs, rfl, rfl, h0, r0⟩ := trodAll_cons hA
  obtain ⟨v1, vs1, d1, ds1, p1, q1, rfl, rfl, rfl, h1, r1⟩ := trodAll_cons r0
  obtain ⟨v2, vs2, d2, ds2, p2, q2, rfl, rfl, rfl, h2, r2⟩ := trodAll_cons r1
  obtain ⟨rfl, rfl, rfl⟩ := trodAll_nil r2
  obtain rfl : args = #[v0, v1, v2] := by cases args; simp_all
  obtain ⟨rfl, rfl⟩ := trodVars_none hV
  have lt0 : ∀ x ∈ p0, x.block < W.heap.size := by obtain ⟨m, hm⟩ := h0; exact DataW.trod_lt m _ _ _ hm
  obtain ⟨⟨a0_0, l0_1, l0_2⟩, K0, B0⟩ := Rd.arg (Rd.struct Try.underlying25 (by kernel_rfl) (RdFs.cons (Rd.int Try.underlying3 (by kernel_rfl)) rfl (RdFs.cons (Rd.slice Try.underlying23 (by kernel_rfl) (Rd.int Try.underlying3 (by kernel_rfl)) 8 (by kernel_rfl)) rfl (RdFs.one (Rd.slice Try.underlying23 (by kernel_rfl) (Rd.int Try.underlying3 (by kernel_rfl)) 8 (by kernel_rfl)) rfl) rfl) rfl)) h0 hsz (j := 0) rfl rfl
  have lt1 : ∀ x ∈ p1, x.block < W.heap.size := by obtain ⟨m, hm⟩ := h1; exact DataW.trod_lt m _ _ _ hm
  obtain ⟨a1, K1, B1⟩ := Rd.arg (Rd.int Try.underlying3 (by kernel_rfl)) h1 hsz (j := 1) rfl rfl
  have lt2 : ∀ x ∈ p2, x.block < W.heap.size := by obtain ⟨m, hm⟩ := h2; exact DataW.trod_lt m _ _ _ hm
  obtain ⟨a2, K2, B2⟩ := Rd.arg (Rd.int Try.underlying3 (by kernel_rfl)) h2 hsz (j := 2) rfl rfl
  obtain ⟨cs0, rfl, _⟩ := okWide_struct Try.underlying25 (hval 0 25 v0 rfl rfl)
  obtain ⟨_, _, e0, rfl, ⟨_, _, rfl, ⟨A0_1, c0_1, rfl, hc0_1, hr0_1⟩, ⟨A0_2, c0_2, rfl, hc0_2, hr0_2⟩⟩⟩ := K0
  obtain rfl : cs0 = #[.int .i64 a0_0, .slice A0_1 l0_1.length c0_1, .slice A0_2 l0_2.length c0_2] := of_toList e0
  obtain ⟨y1, rfl⟩ := okWide_int Try.underlying3 (hval 1 3 v1 rfl rfl)
  obtain rfl : a1 = y1 := by have e_ := List.cons.inj (show [Value.int .i64 y1] = [Value.int .i64 a1] from K1); injection e_.1 with k_ e_; exact e_.symm
  obtain ⟨y2, rfl⟩ := okWide_int Try.underlying3 (hval 2 3 v2 rfl rfl)
  obtain rfl : a2 = y2 := by have e_ := List.cons.inj (show [Value.int .i64 y2] = [Value.int .i64 a2] from K2); injection e_.1 with k_ e_; exact e_.symm
  clear hA0 hval0 hsz0 hsz
  obtain ⟨k, hP⟩ := Pure.VmStacks a0_0 l0_1 l0_2 a1 a2 B0.1 B0.2.1.1 (fun e_ he_ => (B0.2.1.2.2 e_ he_)) B0.2.2.1 (fun e_ he_ => (B0.2.2.2.2 e_ he_)) B1 B2
  refine (VmStacksH.calls k a0_0 _ _ l0_1 _ _ l0_2 a1 a2 true W hr0_1 hc0_1 hr0_2 hc0_2 hP).mono fun e W' ⟨he, hb⟩ => ?_
  have bel : Below W.heap.size W W' := hb
  subst he
  exact (show ∃ v, Ending.returned (.bool true) = .returned v ∧ Rows.vmStacksSpec.post enc Try.prog Try.f9 false true false false W _ v W' from ⟨_, rfl, _, _, _, [], _, [], hW', trodAll_mk1 (shut_bool Try.underlying4 _), (trodAll_cons_mk (Below.trod laidOut (by kernel_rfl) (of_decide_eq_true (by kernel_rfl)) h0 bel lt0) (trodAll_cons_mk (Below.trod laidOut (by kernel_rfl) (of_decide_eq_true (by kernel_rfl)) h1 bel lt1) (trodAll_cons_mk (Below.trod laidOut (by kernel_rfl) (of_decide_eq_true (by kernel_rfl)) h2 bel lt2) trodAll_mk0))), rfl, bel.frame _, fun h => by cases h⟩)
theorem over : Rows.vmStacksRow.holds Try.pinned (OpenSpec.ofChange Rows.vmStacksSpec) :=
  OpenClaim.holds_of_wide 9 Try.f9 rfl rfl rfl rfl rfl rfl rfl ⟨rfl, rfl, rfl, rfl, rfl⟩ rfl rfl rfl rfl rfl (by kernel_rfl) Try.func9 (by kernel_rfl)
    (of_decide_eq_true (by kernel_rfl)) (by unfold Func.isWrapper; first | (rw [if_pos (by decide +kernel)]; kernel_rfl) | (rw [if_neg (by decide +kernel)]; exact ⟨rfl, rfl⟩))
    (fun os started H enc _ => lifted os started H enc)
end Go.Proofs.Ytbdamgopggeikaa.vmStacks
namespace Go.Proofs.Ytbdamgopggeikaa
/-- The row, under a short name, for the claim. -/
theorem vmStacks_holds : Rows.VmStacksSaid := vmStacks.over
#print axioms vmStacks_holds
end Go.Proofs.Ytbdamgopggeikaa
