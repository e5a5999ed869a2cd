/- The law LabelOwns: for every input of bulk at most 1048576 the call returns true, and each argument reads behind the call as it read before. The bulk: how many values and letters a reading holds. -/
import Derived.Test.YtdmgcbelnnggbaaGreatDoorRows
import Derived.Test.YtdmgcbelnnggbaaGreatDoorOpenU
import Derived.Test.YtdmgcbelnnggbaaGreatDoorPureLabelOwns
import Derived.Test.YtdmgcbelnnggbaaGreatDoorCards
import Derived.Test.YtdmgcbelnnggbaaGreatDoorTie
import Derived.WalkKit
import Derived.ProofKit
import Derived.OpenShut
import Derived.ShutString
import Derived.ChangeOld
import Derived.Below
import Derived.SizedLaws
import Derived.KernelRfl
import Derived.Deep.DeepHandedRow
import Derived.Lay
import Derived.SevenTiedAt
namespace Go.Proofs.YtdmgcbelnnggbaaGreatDoor.labelOwns
open Go.ChangeShapes Go.WideShapes Go.ChangeAt Go.RowKit Go.Proofs.YtdmgcbelnnggbaaGreatDoorW.PrintWords Go.Proofs.YtdmgcbelnnggbaaGreatDoor.Open Go.Proofs.YtdmgcbelnnggbaaGreatDoor.PA
open Go.ChangeMaps (open_string shut_string)
set_option linter.unusedVariables false
theorem own : ownKnob Tryz.prog.godebug = none := by kernel_rfl
theorem laidOut : laidOutB Tryz.prog = true := by kernel_rfl
theorem laid_met (os : Os) : laidMetH Tryz.prog Rows.labelOwnsUptoRow.laid ((World.laidAll Tryz.prog os Rows.labelOwnsUptoRow.laid).forCall (fun _ _ => 0) ⟨#[], #[.agg #[.slice none 0 0, .slice none 0 0], .agg #[.slice none 0 0, .slice none 0 0], .slice none 0 0], []⟩).memory := by
  rw [MakeChecks.laidMetH_plain _ _ _ (by kernel_rfl)]
  exact laidMet_laidAll _ (by kernel_rfl) (by kernel_rfl)
theorem reads (os : Os) {H : Type} (enc : TypeId × Value → H) : DataW.whole enc Tryz.prog ((World.laidAll Tryz.prog os Rows.labelOwnsUptoRow.laid).forCall (fun _ _ => 0) ⟨#[], #[.agg #[.slice none 0 0, .slice none 0 0], .agg #[.slice none 0 0, .slice none 0 0], .slice none 0 0], []⟩).memory Tryz.f4.params.toList Rows.labelOwnsSpec.vars false #[.agg #[.slice none 0 0, .slice none 0 0], .agg #[.slice none 0 0, .slice none 0 0], .slice none 0 0].toList 8 = some ([.agg [.nil, .nil], .agg [.nil, .nil], .nil], [], []) := by kernel_rfl
theorem wit_ok (os : Os) : Input.okWideB Tryz.prog ((World.laidAll Tryz.prog os Rows.labelOwnsUptoRow.laid).forCall (fun _ _ => 0) ⟨#[], #[.agg #[.slice none 0 0, .slice none 0 0], .agg #[.slice none 0 0, .slice none 0 0], .slice none 0 0], []⟩) 4 ⟨#[], #[.agg #[.slice none 0 0, .slice none 0 0], .agg #[.slice none 0 0, .slice none 0 0], .slice none 0 0], []⟩ = true := by kernel_rfl
theorem wit_shaped (os : Os) : ((World.laidAll Tryz.prog os Rows.labelOwnsUptoRow.laid).forCall (fun _ _ => 0) ⟨#[], #[.agg #[.slice none 0 0, .slice none 0 0], .agg #[.slice none 0 0, .slice none 0 0], .slice none 0 0], []⟩).Shaped Tryz.prog := World.shaped_of_ZipB (by kernel_rfl) (by kernel_rfl)
set_option maxHeartbeats 4000000 in
set_option maxRecDepth 100000 in
theorem lifted (os : Os) (started : os.Started) (H : Type) (enc : TypeId × Value → H) (F : Stop.Interp) :
    ReturnsInHanded {} Tryz.checked os 4 .any ((Rows.OpenSpec.upto Rows.labelOwnsSpec).preRow enc Tryz.prog Tryz.f4 Rows.labelOwnsUptoRow.domain false Rows.labelOwnsUptoRow.laid) (((Rows.OpenSpec.upto Rows.labelOwnsSpec).at F).post enc Tryz.prog Tryz.f4 false true false false) := by
  refine returnsInHanded_of_row (C := Tryz.checked) (s := Rows.OpenSpec.upto Rows.labelOwnsSpec) own started (by kernel_rfl) Tryz.func4
    ⟨World.laidAll Tryz.prog os Rows.labelOwnsUptoRow.laid, fun _ _ => 0, ⟨#[], #[.agg #[.slice none 0 0, .slice none 0 0], .agg #[.slice none 0 0, .slice none 0 0], .slice none 0 0], []⟩, World.laidAll_os _ _ _, wit_shaped os, (Input.okWide_of_okWideB (base := 0) (wit_ok os)).1, (Input.okWide_of_okWideB (wit_ok os)).2, OpenSpec.preRow_of_cond 8 (reads os enc) (by kernel_rfl) (fun k hk => by cases hk; kernel_rfl) (by kernel_rfl) (laid_met os), by
      simp only [Assume.holds]
      exact ⟨by simp, by simp, fun _ => Modest.zero, by simp, by simp⟩⟩ ?_
  intro W base args ds gs before hval0 hW hcnd hkk0 hsz0 hL hsh _
  have hkk := hkk0 _ rfl
  have hsz : (DataW.weightsEach Tryz.prog (Tryz.f4.params.toList ++ Rows.labelOwnsSpec.plain.varTypes Tryz.prog) (ds ++ gs)).all (· ≤ reachBytes) = true := hsz0
  have hval : ∀ (j : Nat) t v, Tryz.f4.params[j]? = some t → args[j]? = some v → Value.okWide Tryz.prog W .any base t v := hval0
  have hW' := hW
  obtain ⟨p, q, hA0, hV, rfl, hfz, hnd⟩ := hW
  have hA : DataW.TrodAll enc Tryz.prog W 0 (fun _ => true) true Tryz.f4.params.toList args.toList ds p := hA0
  rw [Tryz.params4] at hA hval hsz
  obtain ⟨v0, vs0, d0, ds0, p0, q0, hargs, rfl, rfl, h0, r0⟩ := trodAll_cons hA
  obtain ⟨v1, vs1, d1, ds1, p1, q1, rfl, rfl, rfl, h1, r1⟩ := trodAll_cons r0
  obtain ⟨v2, vs2, d2, ds2, p2, q2, rfl, rfl, rfl, h2, r2⟩ := trodAll_cons r1
  obtain ⟨rfl, rfl, rfl⟩ := trodAll_nil r2
  obtain rfl : args = #[v0, v1, v2] := by cases args; simp_all
  obtain ⟨rfl, rfl⟩ := trodVars_none hV
  have lt0 : ∀ x ∈ p0, x.block < W.heap.size := by obtain ⟨m, hm⟩ := h0; exact DataW.trod_lt m _ _ _ hm
  obtain ⟨⟨l0_0, l0_1⟩, K0, B0, U0⟩ := Rdu.arg (Rdu.struct Tryz.underlying24 (by kernel_rfl) (RdFsu.cons (Rdu.slice Tryz.underlying22 (by kernel_rfl) (Rdu.int Tryz.underlying3 (by kernel_rfl)) 8 (by kernel_rfl)) rfl (RdFsu.one (Rdu.slice Tryz.underlying22 (by kernel_rfl) (Rdu.int Tryz.underlying3 (by kernel_rfl)) 8 (by kernel_rfl)) rfl) rfl)) h0 hsz (j := 0) rfl rfl
  have lt1 : ∀ x ∈ p1, x.block < W.heap.size := by obtain ⟨m, hm⟩ := h1; exact DataW.trod_lt m _ _ _ hm
  obtain ⟨⟨l1_0, l1_1⟩, K1, B1, U1⟩ := Rdu.arg (Rdu.struct Tryz.underlying24 (by kernel_rfl) (RdFsu.cons (Rdu.slice Tryz.underlying22 (by kernel_rfl) (Rdu.int Tryz.underlying3 (by kernel_rfl)) 8 (by kernel_rfl)) rfl (RdFsu.one (Rdu.slice Tryz.underlying22 (by kernel_rfl) (Rdu.int Tryz.underlying3 (by kernel_rfl)) 8 (by kernel_rfl)) rfl) rfl)) h1 hsz (j := 1) rfl rfl
  have lt2 : ∀ x ∈ p2, x.block < W.heap.size := by obtain ⟨m, hm⟩ := h2; exact DataW.trod_lt m _ _ _ hm
  obtain ⟨l2, K2, B2, U2⟩ := Rdu.arg (Rdu.slice Tryz.underlying22 (by kernel_rfl) (Rdu.int Tryz.underlying3 (by kernel_rfl)) 8 (by kernel_rfl)) h2 hsz (j := 2) rfl rfl
  obtain ⟨cs0, rfl, _⟩ := okWide_struct Tryz.underlying24 (hval 0 24 v0 rfl rfl)
  obtain ⟨_, _, e0, ⟨A0_0, c0_0, rfl, hc0_0, hr0_0⟩, ⟨A0_1, c0_1, rfl, hc0_1, hr0_1⟩⟩ := K0
  obtain rfl : cs0 = #[.slice A0_0 l0_0.length c0_0, .slice A0_1 l0_1.length c0_1] := of_toList e0
  obtain ⟨cs1, rfl, _⟩ := okWide_struct Tryz.underlying24 (hval 1 24 v1 rfl rfl)
  obtain ⟨_, _, e1, ⟨A1_0, c1_0, rfl, hc1_0, hr1_0⟩, ⟨A1_1, c1_1, rfl, hc1_1, hr1_1⟩⟩ := K1
  obtain rfl : cs1 = #[.slice A1_0 l1_0.length c1_0, .slice A1_1 l1_1.length c1_1] := of_toList e1
  obtain ⟨b2, len2, cap2, rfl⟩ := okWide_slice Tryz.underlying22 (hval 2 22 v2 rfl rfl)
  obtain ⟨A2, c2, e2, hc2, hr2⟩ := K2
  obtain ⟨rfl, rfl, rfl⟩ : b2 = A2 ∧ len2 = l2.length ∧ cap2 = c2 := by have e_ := List.cons.inj (show [Value.slice b2 len2 cap2] = [Value.slice A2 l2.length c2] from e2); injection e_.1 with x_ y_ z_; exact ⟨x_, y_, z_⟩
  have hbk : Rows.uptoBulkAll [d0, d1, d2] ≤ 1048576 := of_decide_eq_true hkk
  have hbulk : ((l0_0.map fun e_ => 1).sum + 1) + ((l0_1.map fun e_ => 1).sum + 1) + ((l1_0.map fun e_ => 1).sum + 1) + ((l1_1.map fun e_ => 1).sum + 1) + ((l2.map fun e_ => 1).sum + 1) ≤ 1048576 := by
    simp only [Rows.uptoBulkAll] at hbk
    try dsimp only at U0
    try dsimp only at U1
    try dsimp only at U2
    omega
  clear hbk hkk U0 U1 U2
  clear hA0 hval0 hsz0 hsz
  obtain ⟨k, hP⟩ := Pure.LabelOwns l0_0 l0_1 l1_0 l1_1 l2 B0.1.1 (fun e_ he_ => (B0.1.2.2 e_ he_)) B0.2.1 (fun e_ he_ => (B0.2.2.2 e_ he_)) B1.1.1 (fun e_ he_ => (B1.1.2.2 e_ he_)) B1.2.1 (fun e_ he_ => (B1.2.2.2 e_ he_)) B2.1 (fun e_ he_ => (B2.2.2 e_ he_)) hbulk
  refine (LabelOwnsH.calls k _ _ l0_0 _ _ l0_1 _ _ l1_0 _ _ l1_1 _ _ l2 true W hr0_0 hc0_0 hr0_1 hc0_1 hr1_0 hc1_0 hr1_1 hc1_1 hr2 hc2 hsh hL hP).mono fun e W' ⟨he, hb⟩ => ?_
  have bel : Below W.heap.size W W' := hb
  subst he
  exact (show ∃ v, Ending.returned (.bool true) = .returned v ∧ Rows.labelOwnsSpec.post enc Tryz.prog Tryz.f4 false true false false W _ v W' from ⟨_, rfl, _, _, _, [], _, [], hW', trodAll_mk1 (shut_bool Tryz.underlying4 _), (trodAll_cons_mk (Below.trod laidOut (by kernel_rfl) (of_decide_eq_true (by kernel_rfl)) h0 bel lt0) (trodAll_cons_mk (Below.trod laidOut (by kernel_rfl) (of_decide_eq_true (by kernel_rfl)) h1 bel lt1) (trodAll_cons_mk (Below.trod laidOut (by kernel_rfl) (of_decide_eq_true (by kernel_rfl)) h2 bel lt2) trodAll_mk0))), rfl, bel.frame _, fun h => by cases h⟩)
theorem over : Rows.labelOwnsUptoRow.holds Tryz.pinned (Rows.OpenSpec.upto Rows.labelOwnsSpec) :=
  OpenClaim.holds_of_cond 4 Tryz.f4 rfl rfl rfl rfl rfl rfl rfl ⟨rfl, rfl, rfl, rfl, rfl⟩ rfl rfl rfl rfl rfl (by kernel_rfl) Tryz.func4 (by kernel_rfl)
    (of_decide_eq_true (by kernel_rfl)) (by unfold Func.isWrapper; first | (rw [if_pos (by decide +kernel)]; kernel_rfl) | (rw [if_neg (by decide +kernel)]; exact ⟨rfl, rfl⟩))
    (fun os started H enc _ F => by rw [OpenClaim.pre_eq_preRow]; exact lifted os started H enc F)
theorem plain (f : FuncId) (fn : Func) (hf : Tryz.pinned.checked.prog.funcNamed "cloister/cloisterlaw02.LabelOwns" = some f) (hfn : Tryz.pinned.checked.prog.funcs[f]? = some fn) :
    true = Tryz.pinned.checked.prog.looks [] ∧ ∀ (j : Nat) t, fn.params[j]? = some t → Tryz.pinned.checked.prog.wantsStandIn t = false := by
  obtain rfl : f = 4 := Option.some.inj ((show Tryz.prog.funcNamed "cloister/cloisterlaw02.LabelOwns" = some 4 by kernel_rfl).symm.trans hf) |>.symm
  obtain rfl : fn = Tryz.f4 := (Option.some.inj (Tryz.func4.symm.trans hfn)).symm
  refine ⟨by kernel_rfl, fun j t ht => ?_⟩
  rw [Tryz.params4] at ht
  have hm : t ∈ [24, 24, 22] := by have := Array.mem_of_getElem? ht; simpa using this
  simp only [List.mem_cons, List.not_mem_nil, or_false] at hm
  rcases hm with rfl | rfl | rfl
  · exact (show Tryz.prog.wantsStandIn 24 = false by kernel_rfl)
  · exact (show Tryz.prog.wantsStandIn 24 = false by kernel_rfl)
  · exact (show Tryz.prog.wantsStandIn 22 = false by kernel_rfl)
end Go.Proofs.YtdmgcbelnnggbaaGreatDoor.labelOwns
namespace Go.Proofs.YtdmgcbelnnggbaaGreatDoor
/-- The row, under a short name, for the claim. -/
theorem labelOwns_holds : Rows.LabelOwnsUptoCardSaid :=
  Claim7.holds_tied_plain_at .later [] _ _ _ _ labelOwns.over (fun _ h => by cases h) (by kernel_rfl) (fun _ h => by cases h) labelOwnsUpto_row_tie rfl ⟨rfl, rfl⟩ (by kernel_rfl) rfl labelOwns.plain (by kernel_rfl)
#print axioms labelOwns_holds
end Go.Proofs.YtdmgcbelnnggbaaGreatDoor
