/- The law PortDenies: for every input the call returns true, and each argument reads behind the call as it read before. No condition. -/
import Derived.Test.YtclhddldbfdfdaaRows
import Derived.Test.YtclhddldbfdfdaaOpen
import Derived.Test.YtclhddldbfdfdaaPurePortDenies
import Derived.WalkKit
import Derived.ProofKit
import Derived.OpenShut
import Derived.ShutString
import Derived.ChangeOld
import Derived.Below
import Derived.SizedLaws
import Derived.KernelRfl
namespace Go.Proofs.Ytclhddldbfdfdaa.portDenies
open Go.ChangeShapes Go.WideShapes Go.ChangeAt Go.RowKit Go.Proofs.YtclhddldbfdfdaaW.PrintWords Go.Proofs.Ytclhddldbfdfdaa.Open Go.Proofs.Ytclhddldbfdfdaa.Ppt
open Go.ChangeMaps (open_string shut_string)
set_option linter.unusedVariables false
theorem own : ownKnob Try.prog.godebug = none := by kernel_rfl
theorem laidOut : laidOutB Try.prog = true := by kernel_rfl
set_option maxHeartbeats 4000000 in
set_option maxRecDepth 100000 in
theorem lifted (os : Os) (started : os.Started) (H : Type) (enc : TypeId × Value → H) :
    ReturnsInHanded {} Try.checked os 4 .any (Rows.portDeniesSpec.pre6 enc Try.prog Try.f4 Rows.portDeniesRow.domain false) (Rows.portDeniesSpec.post enc Try.prog Try.f4 false true false false) := by
  refine returnsInHanded_of_change_sized (C := Try.checked) own started (by kernel_rfl) Try.func4
    (ChangeSpec.witness6 (enc := enc) (C := Try.checked) false ⟨#[], #[.agg #[.int .i64 0, .int .i64 0, .int .i64 0, .slice none 0 0, .slice none 0 0, .slice none 0 0, .string ByteArray.empty, .bool false]], []⟩ 8 (by kernel_rfl) (by kernel_rfl) (by kernel_rfl) (by kernel_rfl)) ?_
  intro W base args ds gs before hval0 hW hcnd hsz0 _
  have hsz : (DataW.weightsEach Try.prog (Try.f4.params.toList ++ Rows.portDeniesSpec.plain.varTypes Try.prog) (ds ++ gs)).all (· ≤ reachBytes) = true := hsz0
  have hval : ∀ (j : Nat) t v, Try.f4.params[j]? = some t → args[j]? = some v → Value.okWide Try.prog W .any base t v := hval0
  have hW' := hW
  obtain ⟨p, q, hA0, hV, rfl, hfz, hnd⟩ := hW
  have hA : DataW.TrodAll enc Try.prog W 0 (fun _ => true) true Try.f4.params.toList args.toList ds p := hA0
  rw [Try.params4] at hA hval hsz
  obtain ⟨v0, vs0, d0, ds0, p0, q0, hargs, rfl, rfl, h0, r0⟩ := trodAll_cons hA
  obtain ⟨rfl, rfl, rfl⟩ := trodAll_nil r0
  obtain rfl : args = #[v0] := by cases args; simp_all
  obtain ⟨rfl, rfl⟩ := trodVars_none hV
  have lt0 : ∀ x ∈ p0, x.block < W.heap.size := by obtain ⟨m, hm⟩ := h0; exact DataW.trod_lt m _ _ _ hm
  obtain ⟨⟨a0_0, a0_1, ⟨a0_2, ⟨l0_3, l0_4⟩, l0_5⟩, a0_6, a0_7⟩, K0, B0⟩ := Rd.arg (Rd.struct Try.underlying43 (by kernel_rfl) (RdFs.cons (Rd.int Try.underlying3 (by kernel_rfl)) rfl (RdFs.cons (Rd.int Try.underlying3 (by kernel_rfl)) rfl (RdFs.cons (Rd.struct Try.underlying34 (by kernel_rfl) (RdFs.cons (Rd.int Try.underlying3 (by kernel_rfl)) rfl (RdFs.cons (Rd.struct Try.underlying32 (by kernel_rfl) (RdFs.cons (Rd.slice Try.underlying23 (by kernel_rfl) (Rd.int Try.underlying3 (by kernel_rfl)) 8 (by kernel_rfl)) rfl (RdFs.one (Rd.slice Try.underlying23 (by kernel_rfl) (Rd.int Try.underlying3 (by kernel_rfl)) 8 (by kernel_rfl)) rfl) rfl)) rfl (RdFs.one (Rd.slice Try.underlying23 (by kernel_rfl) (Rd.int Try.underlying3 (by kernel_rfl)) 8 (by kernel_rfl)) rfl) rfl) rfl)) rfl (RdFs.cons (Rd.string Try.underlying9 (by kernel_rfl)) rfl (RdFs.one (Rd.bool Try.underlying4 (by kernel_rfl)) rfl) rfl) rfl) rfl) rfl)) h0 hsz (j := 0) rfl rfl
  obtain ⟨cs0, rfl, _⟩ := okWide_struct Try.underlying43 (hval 0 43 v0 rfl rfl)
  obtain ⟨_, _, e0, rfl, ⟨_, _, rfl, rfl, ⟨_, _, rfl, ⟨_, _, rfl, rfl, ⟨_, _, rfl, ⟨_, _, rfl, ⟨A0_3, c0_3, rfl, hc0_3, hr0_3⟩, ⟨A0_4, c0_4, rfl, hc0_4, hr0_4⟩⟩, ⟨A0_5, c0_5, rfl, hc0_5, hr0_5⟩⟩⟩, ⟨_, _, rfl, rfl, rfl⟩⟩⟩⟩ := K0
  obtain rfl : cs0 = #[.int .i64 a0_0, .int .i64 a0_1, .int .i64 a0_2, .slice A0_3 l0_3.length c0_3, .slice A0_4 l0_4.length c0_4, .slice A0_5 l0_5.length c0_5, .string a0_6, .bool a0_7] := of_toList e0
  clear hA0 hval0 hsz0 hsz
  obtain ⟨k, hP⟩ := Pure.PortDenies a0_0 a0_1 a0_2 l0_3 l0_4 l0_5 a0_6 a0_7 B0.1 B0.2.1 B0.2.2.1.1 B0.2.2.1.2.1.1.1 (fun e_ he_ => (B0.2.2.1.2.1.1.2.2 e_ he_)) B0.2.2.1.2.1.2.1 (fun e_ he_ => (B0.2.2.1.2.1.2.2.2 e_ he_)) B0.2.2.1.2.2.1 (fun e_ he_ => (B0.2.2.1.2.2.2.2 e_ he_)) B0.2.2.2.1
  refine (PoDenH.calls k a0_0 a0_1 a0_2 _ _ l0_3 _ _ l0_4 _ _ l0_5 a0_6 a0_7 true W hr0_3 hc0_3 hr0_4 hc0_4 hr0_5 hc0_5 hP).mono fun e W' ⟨he, hb⟩ => ?_
  have bel : Below W.heap.size W W' := hb
  subst he
  exact (show ∃ v, Ending.returned (.bool true) = .returned v ∧ Rows.portDeniesSpec.post enc Try.prog Try.f4 false true false false W _ v W' from ⟨_, rfl, _, _, _, [], _, [], hW', trodAll_mk1 (shut_bool Try.underlying4 _), (trodAll_cons_mk (Below.trod laidOut (by kernel_rfl) (of_decide_eq_true (by kernel_rfl)) h0 bel lt0) trodAll_mk0), rfl, bel.frame _, fun h => by cases h⟩)
theorem over : Rows.portDeniesRow.holds Try.pinned (OpenSpec.ofChange Rows.portDeniesSpec) :=
  OpenClaim.holds_of_wide 4 Try.f4 rfl rfl rfl rfl rfl rfl rfl ⟨rfl, rfl, rfl, rfl, rfl⟩ rfl rfl rfl rfl rfl (by kernel_rfl) Try.func4 (by kernel_rfl)
    (of_decide_eq_true (by kernel_rfl)) (by unfold Func.isWrapper; first | (rw [if_pos (by decide +kernel)]; kernel_rfl) | (rw [if_neg (by decide +kernel)]; exact ⟨rfl, rfl⟩))
    (fun os started H enc _ => lifted os started H enc)
end Go.Proofs.Ytclhddldbfdfdaa.portDenies
namespace Go.Proofs.Ytclhddldbfdfdaa
/-- The row, under a short name, for the claim. -/
theorem portDenies_holds : Rows.PortDeniesSaid := portDenies.over
#print axioms portDenies_holds
end Go.Proofs.Ytclhddldbfdfdaa
