/- The law SetPlays: for every input the call returns true, and each argument reads behind the call as it read before. No condition. -/
import Derived.Test.YtpidbaaojgdpmaaRows
import Derived.Test.YtpidbaaojgdpmaaOpen
import Derived.Test.YtpidbaaojgdpmaaPureSetPlays
import Derived.WalkKit
import Derived.ProofKit
import Derived.OpenShut
import Derived.ShutString
import Derived.ChangeOld
import Derived.Below
import Derived.SizedLaws
import Derived.KernelRfl
namespace Go.Proofs.Ytpidbaaojgdpmaa.setPlays
open Go.ChangeShapes Go.WideShapes Go.ChangeAt Go.RowKit Go.Proofs.YtpidbaaojgdpmaaW.PrintWords Go.Proofs.Ytpidbaaojgdpmaa.Open Go.Proofs.Ytpidbaaojgdpmaa.PN
open Go.ChangeMaps (open_string shut_string)
set_option linter.unusedVariables false
theorem own : ownKnob Try.prog.godebug = none := by kernel_rfl
theorem laidOut : laidOutB Try.prog = true := by kernel_rfl
set_option maxHeartbeats 4000000 in
set_option maxRecDepth 100000 in
theorem lifted (os : Os) (started : os.Started) (H : Type) (enc : TypeId × Value → H) :
    ReturnsInHanded {} Try.checked os 7 .any (Rows.setPlaysSpec.pre6 enc Try.prog Try.f7 Rows.setPlaysRow.domain false) (Rows.setPlaysSpec.post enc Try.prog Try.f7 false true false false) := by
  refine returnsInHanded_of_change_sized (C := Try.checked) own started (by kernel_rfl) Try.func7
    (ChangeSpec.witness6 (enc := enc) (C := Try.checked) false ⟨#[], #[.int .i64 0, .slice none 0 0], []⟩ 8 (by kernel_rfl) (by kernel_rfl) (by kernel_rfl) (by kernel_rfl)) ?_
  intro W base args ds gs before hval0 hW hcnd hsz0 _
  have hsz : (DataW.weightsEach Try.prog (Try.f7.params.toList ++ Rows.setPlaysSpec.plain.varTypes Try.prog) (ds ++ gs)).all (· ≤ reachBytes) = true := hsz0
  have hval : ∀ (j : Nat) t v, Try.f7.params[j]? = some t → args[j]? = some v → Value.okWide Try.prog W .any base t v := hval0
  have hW' := hW
  obtain ⟨p, q, hA0, hV, rfl, hfz, hnd⟩ := hW
  have hA : DataW.TrodAll enc Try.prog W 0 (fun _ => true) true Try.f7.params.toList args.toList ds p := hA0
  rw [Try.params7] at hA hval hsz
  obtain ⟨v0, vs0, d0, ds0, p0, q0, hargs, rfl, rfl, h0, r0⟩ := trodAll_cons hA
  obtain ⟨v1, vs1, d1, ds1, p1, q1, rfl, rfl, rfl, h1, r1⟩ := trodAll_cons r0
  obtain ⟨rfl, rfl, rfl⟩ := trodAll_nil r1
  obtain rfl : args = #[v0, v1] := by cases args; simp_all
  obtain ⟨rfl, rfl⟩ := trodVars_none hV
  have lt0 : ∀ x ∈ p0, x.block < W.heap.size := by obtain ⟨m, hm⟩ := h0; exact DataW.trod_lt m _ _ _ hm
  obtain ⟨a0, K0, B0⟩ := Rd.arg (Rd.int Try.underlying3 (by kernel_rfl)) h0 hsz (j := 0) rfl rfl
  have lt1 : ∀ x ∈ p1, x.block < W.heap.size := by obtain ⟨m, hm⟩ := h1; exact DataW.trod_lt m _ _ _ hm
  obtain ⟨l1, K1, B1⟩ := Rd.arg (Rd.slice Try.underlying35 (by kernel_rfl) (Rd.iso (d := (Kd.pair (Kd.int .i64) (Kd.int .i64))) (Rd.struct Try.underlying41 (by kernel_rfl) (RdFs.cons (Rd.int Try.underlying3 (by kernel_rfl)) rfl (RdFs.one (Rd.int Try.underlying3 (by kernel_rfl)) rfl) rfl)) (fun x : S41 => (x.f0, x.f1)) (fun y => ⟨y.1, y.2⟩) (fun _ => rfl)) 16 (by kernel_rfl)) h1 hsz (j := 1) rfl rfl
  obtain ⟨y0, rfl⟩ := okWide_int Try.underlying3 (hval 0 3 v0 rfl rfl)
  obtain rfl : a0 = y0 := by have e_ := List.cons.inj (show [Value.int .i64 y0] = [Value.int .i64 a0] from K0); injection e_.1 with k_ e_; exact e_.symm
  obtain ⟨b1, len1, cap1, rfl⟩ := okWide_slice Try.underlying35 (hval 1 35 v1 rfl rfl)
  obtain ⟨A1, c1, e1, hc1, hr1⟩ := K1
  obtain ⟨rfl, rfl, rfl⟩ : b1 = A1 ∧ len1 = l1.length ∧ cap1 = c1 := by have e_ := List.cons.inj (show [Value.slice b1 len1 cap1] = [Value.slice A1 l1.length c1] from e1); injection e_.1 with x_ y_ z_; exact ⟨x_, y_, z_⟩
  clear hA0 hval0 hsz0 hsz
  obtain ⟨k, hP⟩ := Pure.SetPlays a0 l1 B0 B1.1 (fun e_ he_ => ⟨(B1.2.2 e_ he_).1, (B1.2.2 e_ he_).2⟩)
  refine (SetPlaysH.calls k a0 _ _ l1 true W hr1 hc1 hP).mono fun e W' ⟨he, hb⟩ => ?_
  have bel : Below W.heap.size W W' := hb
  subst he
  exact (show ∃ v, Ending.returned (.bool true) = .returned v ∧ Rows.setPlaysSpec.post enc Try.prog Try.f7 false true false false W _ v W' from ⟨_, rfl, _, _, _, [], _, [], hW', trodAll_mk1 (shut_bool Try.underlying4 _), (trodAll_cons_mk (Below.trod laidOut (by kernel_rfl) (of_decide_eq_true (by kernel_rfl)) h0 bel lt0) (trodAll_cons_mk (Below.trod laidOut (by kernel_rfl) (of_decide_eq_true (by kernel_rfl)) h1 bel lt1) trodAll_mk0)), rfl, bel.frame _, fun h => by cases h⟩)
theorem over : Rows.setPlaysRow.holds Try.pinned (OpenSpec.ofChange Rows.setPlaysSpec) :=
  OpenClaim.holds_of_wide 7 Try.f7 rfl rfl rfl rfl rfl rfl rfl ⟨rfl, rfl, rfl, rfl, rfl⟩ rfl rfl rfl rfl rfl (by kernel_rfl) Try.func7 (by kernel_rfl)
    (of_decide_eq_true (by kernel_rfl)) (by unfold Func.isWrapper; first | (rw [if_pos (by decide +kernel)]; kernel_rfl) | (rw [if_neg (by decide +kernel)]; exact ⟨rfl, rfl⟩))
    (fun os started H enc _ => lifted os started H enc)
end Go.Proofs.Ytpidbaaojgdpmaa.setPlays
namespace Go.Proofs.Ytpidbaaojgdpmaa
/-- The row, under a short name, for the claim. -/
theorem setPlays_holds : Rows.SetPlaysSaid := setPlays.over
#print axioms setPlays_holds
end Go.Proofs.Ytpidbaaojgdpmaa
