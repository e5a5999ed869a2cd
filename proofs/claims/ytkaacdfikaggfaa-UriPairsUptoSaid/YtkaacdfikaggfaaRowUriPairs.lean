/- The law UriPairs: for every input of bulk at most 1048576 the call returns true, and each argument reads behind the call as it read before. The bulk: how many values and letters a reading holds. -/
import Derived.Test.YtkaacdfikaggfaaRows
import Derived.Test.YtkaacdfikaggfaaOpenU
import Derived.Test.YtkaacdfikaggfaaPureUriPairs
import Derived.WalkKit
import Derived.ProofKit
import Derived.OpenShut
import Derived.ShutString
import Derived.ChangeOld
import Derived.Below
import Derived.SizedLaws
import Derived.KernelRfl
namespace Go.Proofs.Ytkaacdfikaggfaa.uriPairs
open Go.ChangeShapes Go.WideShapes Go.ChangeAt Go.RowKit Go.Proofs.YtkaacdfikaggfaaW.PrintWords Go.Proofs.Ytkaacdfikaggfaa.Open Go.Proofs.Ytkaacdfikaggfaa.PA
open Go.ChangeMaps (open_string shut_string)
set_option linter.unusedVariables false
theorem own : ownKnob Try.prog.godebug = none := by kernel_rfl
theorem laidOut : laidOutB Try.prog = true := by kernel_rfl
set_option maxHeartbeats 4000000 in
set_option maxRecDepth 100000 in
theorem lifted (os : Os) (started : os.Started) (H : Type) (enc : TypeId × Value → H) (F : Stop.Interp) :
    ReturnsInHanded {} Try.checked os 7 .any ((Rows.OpenSpec.upto Rows.uriPairsSpec).pre6 enc Try.prog Try.f7 Rows.uriPairsUptoRow.domain false) (((Rows.OpenSpec.upto Rows.uriPairsSpec).at F).post enc Try.prog Try.f7 false true false false) := by
  refine returnsInHanded_of_cond_sized (C := Try.checked) (s := Rows.OpenSpec.upto Rows.uriPairsSpec) (k := Rows.uptoSmall) rfl own started (by kernel_rfl) Try.func7
    (OpenSpec.witness (enc := enc) (C := Try.checked) (s := Rows.OpenSpec.upto Rows.uriPairsSpec) (k := Rows.uptoSmall) rfl false ⟨#[], #[.slice none 0 0], []⟩ 8 (by kernel_rfl) (by kernel_rfl) (by kernel_rfl) (x := ([.nil], [], [])) (by kernel_rfl) rfl (by kernel_rfl)) ?_
  intro W base args ds gs before hval0 hW hcnd hkk hsz0 _
  have hsz : (DataW.weightsEach Try.prog (Try.f7.params.toList ++ Rows.uriPairsSpec.plain.varTypes Try.prog) (ds ++ gs)).all (· ≤ reachBytes) = true := hsz0
  have hval : ∀ (j : Nat) t v, Try.f7.params[j]? = some t → args[j]? = some v → Value.okWide Try.prog W .any base t v := hval0
  have hW' := hW
  obtain ⟨p, q, hA0, hV, rfl, hfz, hnd⟩ := hW
  have hA : DataW.TrodAll enc Try.prog W 0 (fun _ => true) true Try.f7.params.toList args.toList ds p := hA0
  rw [Try.params7] at hA hval hsz
  obtain ⟨v0, vs0, d0, ds0, p0, q0, hargs, rfl, rfl, h0, r0⟩ := trodAll_cons hA
  obtain ⟨rfl, rfl, rfl⟩ := trodAll_nil r0
  obtain rfl : args = #[v0] := by cases args; simp_all
  obtain ⟨rfl, rfl⟩ := trodVars_none hV
  have lt0 : ∀ x ∈ p0, x.block < W.heap.size := by obtain ⟨m, hm⟩ := h0; exact DataW.trod_lt m _ _ _ hm
  obtain ⟨l0, K0, B0, U0⟩ := Rdu.arg (Rdu.slice Try.underlying28 (by kernel_rfl) (Rdu.iso (d := (Kd.pair Kd.string Kd.string)) (Rdu.struct Try.underlying52 (by kernel_rfl) (RdFsu.cons (Rdu.string Try.underlying9 (by kernel_rfl)) rfl (RdFsu.one (Rdu.string Try.underlying9 (by kernel_rfl)) rfl) rfl)) (fun x : S52 => (x.f0, x.f1)) (fun y => ⟨y.1, y.2⟩) (fun _ => rfl)) 32 (by kernel_rfl)) h0 hsz (j := 0) rfl rfl
  obtain ⟨b0, len0, cap0, rfl⟩ := okWide_slice Try.underlying28 (hval 0 28 v0 rfl rfl)
  obtain ⟨A0, c0, e0, hc0, hr0⟩ := K0
  obtain ⟨rfl, rfl, rfl⟩ : b0 = A0 ∧ len0 = l0.length ∧ cap0 = c0 := by have e_ := List.cons.inj (show [Value.slice b0 len0 cap0] = [Value.slice A0 l0.length c0] from e0); injection e_.1 with x_ y_ z_; exact ⟨x_, y_, z_⟩
  have hbk : Rows.uptoBulkAll [d0] ≤ 1048576 := of_decide_eq_true hkk
  have hbulk : ((l0.map fun e_ => ((e_.f0.size + 1) + (e_.f1.size + 1))).sum + 1) ≤ 1048576 := by
    simp only [Rows.uptoBulkAll] at hbk
    try dsimp only at U0
    omega
  clear hbk hkk U0
  clear hA0 hval0 hsz0 hsz
  obtain ⟨k, hP⟩ := Pure.UriPairs l0 B0.1 (fun e_ he_ => ⟨(B0.2.2 e_ he_).1, (B0.2.2 e_ he_).2⟩) hbulk
  refine (cloisterlaw06_UriPairs.calls k _ _ l0 true W hr0 hc0 hP).mono fun e W' ⟨he, hb⟩ => ?_
  have bel : Below W.heap.size W W' := hb
  subst he
  exact (show ∃ v, Ending.returned (.bool true) = .returned v ∧ Rows.uriPairsSpec.post enc Try.prog Try.f7 false true false false W _ v W' from ⟨_, rfl, _, _, _, [], _, [], hW', trodAll_mk1 (shut_bool Try.underlying4 _), (trodAll_cons_mk (Below.trod laidOut (by kernel_rfl) (of_decide_eq_true (by kernel_rfl)) h0 bel lt0) trodAll_mk0), rfl, bel.frame _, fun h => by cases h⟩)
theorem over : Rows.uriPairsUptoRow.holds Try.pinned (Rows.OpenSpec.upto Rows.uriPairsSpec) :=
  OpenClaim.holds_of_cond 7 Try.f7 rfl rfl rfl rfl rfl rfl rfl ⟨rfl, rfl, rfl, rfl, rfl⟩ rfl rfl rfl rfl rfl (by kernel_rfl) Try.func7 (by kernel_rfl)
    (of_decide_eq_true (by kernel_rfl)) (by unfold Func.isWrapper; first | (rw [if_pos (by decide +kernel)]; kernel_rfl) | (rw [if_neg (by decide +kernel)]; exact ⟨rfl, rfl⟩))
    (fun os started H enc _ F => lifted os started H enc F)
end Go.Proofs.Ytkaacdfikaggfaa.uriPairs
namespace Go.Proofs.Ytkaacdfikaggfaa
/-- The row, under a short name, for the claim. -/
theorem uriPairs_holds : Rows.UriPairsUptoSaid := uriPairs.over
#print axioms uriPairs_holds
end Go.Proofs.Ytkaacdfikaggfaa
