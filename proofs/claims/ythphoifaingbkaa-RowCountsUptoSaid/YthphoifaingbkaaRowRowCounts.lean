/- The law RowCounts: for every input of bulk at most 1048576 the call returns true, and each argument reads behind the call as it read before. The bulk: how many values and letters a reading holds. -/
import Derived.Test.YthphoifaingbkaaRows
import Derived.Test.YthphoifaingbkaaOpenU
import Derived.Test.YthphoifaingbkaaPureRowCounts
import Derived.WalkKit
import Derived.ProofKit
import Derived.OpenShut
import Derived.ShutString
import Derived.ChangeOld
import Derived.Below
import Derived.SizedLaws
import Derived.KernelRfl
namespace Go.Proofs.Ythphoifaingbkaa.rowCounts
open Go.ChangeShapes Go.WideShapes Go.ChangeAt Go.RowKit Go.Proofs.YthphoifaingbkaaW.PrintWords Go.Proofs.Ythphoifaingbkaa.Open Go.Proofs.Ythphoifaingbkaa.PQ
open Go.ChangeMaps (open_string shut_string)
set_option linter.unusedVariables false
theorem own : ownKnob Try.prog.godebug = none := by kernel_rfl
theorem laidOut : laidOutB Try.prog = true := by kernel_rfl
set_option maxHeartbeats 4000000 in
set_option maxRecDepth 100000 in
theorem lifted (os : Os) (started : os.Started) (H : Type) (enc : TypeId × Value → H) (F : Stop.Interp) :
    ReturnsInHanded {} Try.checked os 3 .any ((Rows.OpenSpec.upto Rows.rowCountsSpec).pre6 enc Try.prog Try.f3 Rows.rowCountsUptoRow.domain false) (((Rows.OpenSpec.upto Rows.rowCountsSpec).at F).post enc Try.prog Try.f3 false true false false) := by
  refine returnsInHanded_of_cond_sized (C := Try.checked) (s := Rows.OpenSpec.upto Rows.rowCountsSpec) (k := Rows.uptoSmall) rfl own started (by kernel_rfl) Try.func3
    (OpenSpec.witness (enc := enc) (C := Try.checked) (s := Rows.OpenSpec.upto Rows.rowCountsSpec) (k := Rows.uptoSmall) rfl false ⟨#[], #[.agg #[.string ByteArray.empty, .slice none 0 0, .slice none 0 0, .slice none 0 0, .int .i64 0], .string ByteArray.empty], []⟩ 8 (by kernel_rfl) (by kernel_rfl) (by kernel_rfl) (x := ([.agg [.lit (.string []), .nil, .agg [.nil, .nil], .lit (.int .i64 0)], .lit (.string [])], [], [])) (by kernel_rfl) rfl (by kernel_rfl)) ?_
  intro W base args ds gs before hval0 hW hcnd hkk hsz0 _
  have hsz : (DataW.weightsEach Try.prog (Try.f3.params.toList ++ Rows.rowCountsSpec.plain.varTypes Try.prog) (ds ++ gs)).all (· ≤ reachBytes) = true := hsz0
  have hval : ∀ (j : Nat) t v, Try.f3.params[j]? = some t → args[j]? = some v → Value.okWide Try.prog W .any base t v := hval0
  have hW' := hW
  obtain ⟨p, q, hA0, hV, rfl, hfz, hnd⟩ := hW
  have hA : DataW.TrodAll enc Try.prog W 0 (fun _ => true) true Try.f3.params.toList args.toList ds p := hA0
  rw [Try.params3] at hA hval hsz
  obtain ⟨v0, vs0, d0, ds0, p0, q0, hargs, rfl, rfl, h0, r0⟩ := trodAll_cons hA
  obtain ⟨v1, vs1, d1, ds1, p1, q1, rfl, rfl, rfl, h1, r1⟩ := trodAll_cons r0
  obtain ⟨rfl, rfl, rfl⟩ := trodAll_nil r1
  obtain rfl : args = #[v0, v1] := by cases args; simp_all
  obtain ⟨rfl, rfl⟩ := trodVars_none hV
  have lt0 : ∀ x ∈ p0, x.block < W.heap.size := by obtain ⟨m, hm⟩ := h0; exact DataW.trod_lt m _ _ _ hm
  obtain ⟨⟨a0_0, l0_1, ⟨l0_2, l0_3⟩, a0_4⟩, K0, B0, U0⟩ := Rdu.arg (Rdu.struct Try.underlying27 (by kernel_rfl) (RdFsu.cons (Rdu.string Try.underlying9 (by kernel_rfl)) rfl (RdFsu.cons (Rdu.slice Try.underlying22 (by kernel_rfl) (Rdu.string Try.underlying9 (by kernel_rfl)) 16 (by kernel_rfl)) rfl (RdFsu.cons (Rdu.struct Try.underlying25 (by kernel_rfl) (RdFsu.cons (Rdu.slice Try.underlying23 (by kernel_rfl) (Rdu.int Try.underlying3 (by kernel_rfl)) 8 (by kernel_rfl)) rfl (RdFsu.one (Rdu.slice Try.underlying23 (by kernel_rfl) (Rdu.int Try.underlying3 (by kernel_rfl)) 8 (by kernel_rfl)) rfl) rfl)) rfl (RdFsu.one (Rdu.int Try.underlying3 (by kernel_rfl)) rfl) rfl) rfl) rfl)) h0 hsz (j := 0) rfl rfl
  have lt1 : ∀ x ∈ p1, x.block < W.heap.size := by obtain ⟨m, hm⟩ := h1; exact DataW.trod_lt m _ _ _ hm
  obtain ⟨a1, K1, B1, U1⟩ := Rdu.arg (Rdu.string Try.underlying9 (by kernel_rfl)) h1 hsz (j := 1) rfl rfl
  obtain ⟨cs0, rfl, _⟩ := okWide_struct Try.underlying27 (hval 0 27 v0 rfl rfl)
  obtain ⟨_, _, e0, rfl, ⟨_, _, rfl, ⟨A0_1, c0_1, rfl, hc0_1, hr0_1⟩, ⟨_, _, rfl, ⟨_, _, rfl, ⟨A0_2, c0_2, rfl, hc0_2, hr0_2⟩, ⟨A0_3, c0_3, rfl, hc0_3, hr0_3⟩⟩, rfl⟩⟩⟩ := K0
  obtain rfl : cs0 = #[.string a0_0, .slice A0_1 l0_1.length c0_1, .slice A0_2 l0_2.length c0_2, .slice A0_3 l0_3.length c0_3, .int .i64 a0_4] := of_toList e0
  obtain ⟨y1, rfl⟩ := okWide_string Try.underlying9 (hval 1 9 v1 rfl rfl)
  obtain rfl : a1 = y1 := by have e_ := List.cons.inj (show [Value.string y1] = [Value.string a1] from K1); injection e_.1 with e_; exact e_.symm
  have hbk : Rows.uptoBulkAll [d0, d1] ≤ 1048576 := of_decide_eq_true hkk
  have hbulk : (a0_0.size + 1) + ((l0_1.map fun e_ => (e_.size + 1)).sum + 1) + ((l0_2.map fun e_ => 1).sum + 1) + ((l0_3.map fun e_ => 1).sum + 1) + 1 + (a1.size + 1) ≤ 1048576 := by
    simp only [Rows.uptoBulkAll] at hbk
    try dsimp only at U0
    try dsimp only at U1
    omega
  clear hbk hkk U0 U1
  clear hA0 hval0 hsz0 hsz
  obtain ⟨k, hP⟩ := Pure.RowCounts a0_0 l0_1 l0_2 l0_3 a0_4 a1 B0.1 B0.2.1.1 (fun e_ he_ => (B0.2.1.2.2 e_ he_)) B0.2.2.1.1.1 (fun e_ he_ => (B0.2.2.1.1.2.2 e_ he_)) B0.2.2.1.2.1 (fun e_ he_ => (B0.2.2.1.2.2.2 e_ he_)) B0.2.2.2 B1 hbulk
  refine (RowCountsH.calls k a0_0 _ _ l0_1 _ _ l0_2 _ _ l0_3 a0_4 a1 true W hr0_1 hc0_1 hr0_2 hc0_2 hr0_3 hc0_3 hP).mono fun e W' ⟨he, hb⟩ => ?_
  have bel : Below W.heap.size W W' := hb
  subst he
  exact (show ∃ v, Ending.returned (.bool true) = .returned v ∧ Rows.rowCountsSpec.post enc Try.prog Try.f3 false true false false W _ v W' from ⟨_, rfl, _, _, _, [], _, [], hW', trodAll_mk1 (shut_bool Try.underlying4 _), (trodAll_cons_mk (Below.trod laidOut (by kernel_rfl) (of_decide_eq_true (by kernel_rfl)) h0 bel lt0) (trodAll_cons_mk (Below.trod laidOut (by kernel_rfl) (of_decide_eq_true (by kernel_rfl)) h1 bel lt1) trodAll_mk0)), rfl, bel.frame _, fun h => by cases h⟩)
theorem over : Rows.rowCountsUptoRow.holds Try.pinned (Rows.OpenSpec.upto Rows.rowCountsSpec) :=
  OpenClaim.holds_of_cond 3 Try.f3 rfl rfl rfl rfl rfl rfl rfl ⟨rfl, rfl, rfl, rfl, rfl⟩ rfl rfl rfl rfl rfl (by kernel_rfl) Try.func3 (by kernel_rfl)
    (of_decide_eq_true (by kernel_rfl)) (by unfold Func.isWrapper; first | (rw [if_pos (by decide +kernel)]; kernel_rfl) | (rw [if_neg (by decide +kernel)]; exact ⟨rfl, rfl⟩))
    (fun os started H enc _ F => lifted os started H enc F)
end Go.Proofs.Ythphoifaingbkaa.rowCounts
namespace Go.Proofs.Ythphoifaingbkaa
/-- The row, under a short name, for the claim. -/
theorem rowCounts_holds : Rows.RowCountsUptoSaid := rowCounts.over
#print axioms rowCounts_holds
end Go.Proofs.Ythphoifaingbkaa
