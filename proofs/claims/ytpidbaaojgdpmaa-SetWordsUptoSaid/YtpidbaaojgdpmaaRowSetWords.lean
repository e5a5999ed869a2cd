/- The law SetWords: for every input of bulk at most 1048576 the call returns true, and each argument reads behind the call as it read before. The bulk: how many values and letters a reading holds. -/
import Derived.Test.YtpidbaaojgdpmaaRows
import Derived.Test.YtpidbaaojgdpmaaOpenU
import Derived.Test.YtpidbaaojgdpmaaPureSetWords
import Derived.WalkKit
import Derived.ProofKit
import Derived.OpenShut
import Derived.ShutString
import Derived.ChangeOld
import Derived.Below
import Derived.SizedLaws
import Derived.KernelRfl
namespace Go.Proofs.Ytpidbaaojgdpmaa.setWords
open Go.ChangeShapes Go.WideShapes Go.ChangeAt Go.RowKit Go.Proofs.YtpidbaaojgdpmaaW.PrintWords Go.Proofs.Ytpidbaaojgdpmaa.Open Go.Proofs.Ytpidbaaojgdpmaa.PW
open Go.ChangeMaps (open_string shut_string)
set_option linter.unusedVariables false
theorem own : ownKnob Try.prog.godebug = none := by kernel_rfl
theorem laidOut : laidOutB Try.prog = true := by kernel_rfl
set_option maxHeartbeats 4000000 in
set_option maxRecDepth 100000 in
theorem lifted (os : Os) (started : os.Started) (H : Type) (enc : TypeId × Value → H) (F : Stop.Interp) :
    ReturnsInHanded {} Try.checked os 6 .any ((Rows.OpenSpec.upto Rows.setWordsSpec).pre6 enc Try.prog Try.f6 Rows.setWordsUptoRow.domain false) (((Rows.OpenSpec.upto Rows.setWordsSpec).at F).post enc Try.prog Try.f6 false true false false) := by
  refine returnsInHanded_of_cond_sized (C := Try.checked) (s := Rows.OpenSpec.upto Rows.setWordsSpec) (k := Rows.uptoSmall) rfl own started (by kernel_rfl) Try.func6
    (OpenSpec.witness (enc := enc) (C := Try.checked) (s := Rows.OpenSpec.upto Rows.setWordsSpec) (k := Rows.uptoSmall) rfl false ⟨#[], #[.slice none 0 0, .slice none 0 0], []⟩ 8 (by kernel_rfl) (by kernel_rfl) (by kernel_rfl) (x := ([.nil, .nil], [], [])) (by kernel_rfl) rfl (by kernel_rfl)) ?_
  intro W base args ds gs before hval0 hW hcnd hkk hsz0 _
  have hsz : (DataW.weightsEach Try.prog (Try.f6.params.toList ++ Rows.setWordsSpec.plain.varTypes Try.prog) (ds ++ gs)).all (· ≤ reachBytes) = true := hsz0
  have hval : ∀ (j : Nat) t v, Try.f6.params[j]? = some t → args[j]? = some v → Value.okWide Try.prog W .any base t v := hval0
  have hW' := hW
  obtain ⟨p, q, hA0, hV, rfl, hfz, hnd⟩ := hW
  have hA : DataW.TrodAll enc Try.prog W 0 (fun _ => true) true Try.f6.params.toList args.toList ds p := hA0
  rw [Try.params6] at hA hval hsz
  obtain ⟨v0, vs0, d0, ds0, p0, q0, hargs, rfl, rfl, h0, r0⟩ := trodAll_cons hA
  obtain ⟨v1, vs1, d1, ds1, p1, q1, rfl, rfl, rfl, h1, r1⟩ := trodAll_cons r0
  obtain ⟨rfl, rfl, rfl⟩ := trodAll_nil r1
  obtain rfl : args = #[v0, v1] := by cases args; simp_all
  obtain ⟨rfl, rfl⟩ := trodVars_none hV
  have lt0 : ∀ x ∈ p0, x.block < W.heap.size := by obtain ⟨m, hm⟩ := h0; exact DataW.trod_lt m _ _ _ hm
  obtain ⟨l0, K0, B0, U0⟩ := Rdu.arg (Rdu.slice Try.underlying31 (by kernel_rfl) (Rdu.string Try.underlying9 (by kernel_rfl)) 16 (by kernel_rfl)) h0 hsz (j := 0) rfl rfl
  have lt1 : ∀ x ∈ p1, x.block < W.heap.size := by obtain ⟨m, hm⟩ := h1; exact DataW.trod_lt m _ _ _ hm
  obtain ⟨l1, K1, B1, U1⟩ := Rdu.arg (Rdu.slice Try.underlying31 (by kernel_rfl) (Rdu.string Try.underlying9 (by kernel_rfl)) 16 (by kernel_rfl)) h1 hsz (j := 1) rfl rfl
  obtain ⟨b0, len0, cap0, rfl⟩ := okWide_slice Try.underlying31 (hval 0 31 v0 rfl rfl)
  obtain ⟨A0, c0, e0, hc0, hr0⟩ := K0
  obtain ⟨rfl, rfl, rfl⟩ : b0 = A0 ∧ len0 = l0.length ∧ cap0 = c0 := by have e_ := List.cons.inj (show [Value.slice b0 len0 cap0] = [Value.slice A0 l0.length c0] from e0); injection e_.1 with x_ y_ z_; exact ⟨x_, y_, z_⟩
  obtain ⟨b1, len1, cap1, rfl⟩ := okWide_slice Try.underlying31 (hval 1 31 v1 rfl rfl)
  obtain ⟨A1, c1, e1, hc1, hr1⟩ := K1
  obtain ⟨rfl, rfl, rfl⟩ : b1 = A1 ∧ len1 = l1.length ∧ cap1 = c1 := by have e_ := List.cons.inj (show [Value.slice b1 len1 cap1] = [Value.slice A1 l1.length c1] from e1); injection e_.1 with x_ y_ z_; exact ⟨x_, y_, z_⟩
  have hbk : Rows.uptoBulkAll [d0, d1] ≤ 1048576 := of_decide_eq_true hkk
  have hbulk : ((l0.map fun e_ => (e_.size + 1)).sum + 1) + ((l1.map fun e_ => (e_.size + 1)).sum + 1) ≤ 1048576 := by
    simp only [Rows.uptoBulkAll] at hbk
    try dsimp only at U0
    try dsimp only at U1
    omega
  clear hbk hkk U0 U1
  clear hA0 hval0 hsz0 hsz
  obtain ⟨k, hP⟩ := Pure.SetWords l0 l1 B0.1 (fun e_ he_ => (B0.2.2 e_ he_)) B1.1 (fun e_ he_ => (B1.2.2 e_ he_)) hbulk
  refine (SetWordsH.calls k _ _ l0 _ _ l1 true W hr0 hc0 hr1 hc1 hP).mono fun e W' ⟨he, hb⟩ => ?_
  have bel : Below W.heap.size W W' := hb
  subst he
  exact (show ∃ v, Ending.returned (.bool true) = .returned v ∧ Rows.setWordsSpec.post enc Try.prog Try.f6 false true false false W _ v W' from ⟨_, rfl, _, _, _, [], _, [], hW', trodAll_mk1 (shut_bool Try.underlying4 _), (trodAll_cons_mk (Below.trod laidOut (by kernel_rfl) (of_decide_eq_true (by kernel_rfl)) h0 bel lt0) (trodAll_cons_mk (Below.trod laidOut (by kernel_rfl) (of_decide_eq_true (by kernel_rfl)) h1 bel lt1) trodAll_mk0)), rfl, bel.frame _, fun h => by cases h⟩)
theorem over : Rows.setWordsUptoRow.holds Try.pinned (Rows.OpenSpec.upto Rows.setWordsSpec) :=
  OpenClaim.holds_of_cond 6 Try.f6 rfl rfl rfl rfl rfl rfl rfl ⟨rfl, rfl, rfl, rfl, rfl⟩ rfl rfl rfl rfl rfl (by kernel_rfl) Try.func6 (by kernel_rfl)
    (of_decide_eq_true (by kernel_rfl)) (by unfold Func.isWrapper; first | (rw [if_pos (by decide +kernel)]; kernel_rfl) | (rw [if_neg (by decide +kernel)]; exact ⟨rfl, rfl⟩))
    (fun os started H enc _ F => lifted os started H enc F)
end Go.Proofs.Ytpidbaaojgdpmaa.setWords
namespace Go.Proofs.Ytpidbaaojgdpmaa
/-- The row, under a short name, for the claim. -/
theorem setWords_holds : Rows.SetWordsUptoSaid := setWords.over
#print axioms setWords_holds
end Go.Proofs.Ytpidbaaojgdpmaa
