/- The law PortPlays: for every input the call returns true, and each argument reads behind the call as it read before. No condition. -/
import Derived.Test.YtclhddldbfdfdaaRows
import Derived.Test.YtclhddldbfdfdaaOpen
import Derived.Test.YtclhddldbfdfdaaPurePortPlays
import Derived.WalkKit
import Derived.ProofKit
import Derived.OpenShut
import Derived.ShutString
import Derived.ChangeOld
import Derived.Below
import Derived.SizedLaws
import Derived.KernelRfl
namespace Go.Proofs.Ytclhddldbfdfdaa.portPlays
open Go.ChangeShapes Go.WideShapes Go.ChangeAt Go.RowKit Go.Proofs.YtclhddldbfdfdaaW.PrintWords Go.Proofs.Ytclhddldbfdfdaa.Open Go.Proofs.Ytclhddldbfdfdaa.Ppl
open Go.ChangeMaps (open_string shut_string)
set_option linter.unusedVariables false
theorem own : ownKnob Try.prog.godebug = none := by kernel_rfl
theorem laidOut : laidOutB Try.prog = true := by kernel_rfl
set_option maxHeartbeats 4000000 in
set_option maxRecDepth 100000 in
theorem lifted (os : Os) (started : os.Started) (H : Type) (enc : TypeId × Value → H) :
    ReturnsInHanded {} Try.checked os 6 .any (Rows.portPlaysSpec.pre6 enc Try.prog Try.f6 Rows.portPlaysRow.domain false) (Rows.portPlaysSpec.post enc Try.prog Try.f6 false true false false) := by
  refine returnsInHanded_of_change_sized (C := Try.checked) own started (by kernel_rfl) Try.func6
    (ChangeSpec.witness6 (enc := enc) (C := Try.checked) false ⟨#[], #[.int .i64 0, .int .i64 0, .slice none 0 0], []⟩ 8 (by kernel_rfl) (by kernel_rfl) (by kernel_rfl) (by kernel_rfl)) ?_
  intro W base args ds gs before hval0 hW hcnd hsz0 _
  have hsz : (DataW.weightsEach Try.prog (Try.f6.params.toList ++ Rows.portPlaysSpec.plain.varTypes Try.prog) (ds ++ gs)).all (· ≤ reachBytes) = true := hsz0
  have hval : ∀ (j : Nat) t v, Try.f6.params[j]? = some t → args[j]? = some v → Value.okWide Try.prog W .any base t v := hval0
  have hW' := hW
  obtain ⟨p, q, hA0, hV, rfl, hfz, hnd⟩ := hW
  have hA : DataW.TrodAll enc Try.prog W 0 (fun _ => true) true Try.f6.params.toList args.toList ds p := hA0
  rw [Try.params6] at hA hval hsz
  obtain ⟨v0, vs0, d0, ds0, p0, q0, hargs, rfl, rfl, h0, r0⟩ := trodAll_cons hA
  obtain ⟨v1, vs1, d1, ds1, p1, q1, rfl, rfl, rfl, h1, r1⟩ := trodAll_cons r0
  obtain ⟨v2, vs2, d2, ds2, p2, q2, rfl, rfl, rfl, h2, r2⟩ := trodAll_cons r1
  obtain ⟨rfl, rfl, rfl⟩ := trodAll_nil r2
  obtain rfl : args = #[v0, v1, v2] := by cases args; simp_all
  obtain ⟨rfl, rfl⟩ := trodVars_none hV
  have lt0 : ∀ x ∈ p0, x.block < W.heap.size := by obtain ⟨m, hm⟩ := h0; exact DataW.trod_lt m _ _ _ hm
  obtain ⟨a0, K0, B0⟩ := Rd.arg (Rd.int Try.underlying3 (by kernel_rfl)) h0 hsz (j := 0) rfl rfl
  have lt1 : ∀ x ∈ p1, x.block < W.heap.size := by obtain ⟨m, hm⟩ := h1; exact DataW.trod_lt m _ _ _ hm
  obtain ⟨a1, K1, B1⟩ := Rd.arg (Rd.int Try.underlying3 (by kernel_rfl)) h1 hsz (j := 1) rfl rfl
  have lt2 : ∀ x ∈ p2, x.block < W.heap.size := by obtain ⟨m, hm⟩ := h2; exact DataW.trod_lt m _ _ _ hm
  obtain ⟨l2, K2, B2⟩ := Rd.arg (Rd.slice Try.underlying49 (by kernel_rfl) (Rd.iso (d := (Kd.pair (Kd.int .i64) (Kd.pair (Kd.int .i64) (Kd.pair k34 (Kd.pair Kd.string Kd.bool))))) (Rd.struct Try.underlying43 (by kernel_rfl) (RdFs.cons (Rd.int Try.underlying3 (by kernel_rfl)) rfl (RdFs.cons (Rd.int Try.underlying3 (by kernel_rfl)) rfl (RdFs.cons (Rd.iso (d := (Kd.pair (Kd.int .i64) (Kd.pair k32 (Kd.slice 3 (Kd.int .i64))))) (Rd.struct Try.underlying34 (by kernel_rfl) (RdFs.cons (Rd.int Try.underlying3 (by kernel_rfl)) rfl (RdFs.cons (Rd.iso (d := (Kd.pair (Kd.slice 3 (Kd.int .i64)) (Kd.slice 3 (Kd.int .i64)))) (Rd.struct Try.underlying32 (by kernel_rfl) (RdFs.cons (Rd.slice Try.underlying23 (by kernel_rfl) (Rd.int Try.underlying3 (by kernel_rfl)) 8 (by kernel_rfl)) rfl (RdFs.one (Rd.slice Try.underlying23 (by kernel_rfl) (Rd.int Try.underlying3 (by kernel_rfl)) 8 (by kernel_rfl)) rfl) rfl)) (fun x : S32 => (x.f0, x.f1)) (fun y => ⟨y.1, y.2⟩) (fun _ => rfl)) rfl (RdFs.one (Rd.slice Try.underlying23 (by kernel_rfl) (Rd.int Try.underlying3 (by kernel_rfl)) 8 (by kernel_rfl)) rfl) rfl) rfl)) (fun x : S34 => (x.f0, x.f1, x.f2)) (fun y => ⟨y.1, y.2.1, y.2.2⟩) (fun _ => rfl)) rfl (RdFs.cons (Rd.string Try.underlying9 (by kernel_rfl)) rfl (RdFs.one (Rd.bool Try.underlying4 (by kernel_rfl)) rfl) rfl) rfl) rfl) rfl)) (fun x : S43 => (x.f0, x.f1, x.f2, x.f3, x.f4)) (fun y => ⟨y.1, y.2.1, y.2.2.1, y.2.2.2.1, y.2.2.2.2⟩) (fun _ => rfl)) 120 (by kernel_rfl)) h2 hsz (j := 2) rfl rfl
  obtain ⟨y0, rfl⟩ := okWide_int Try.underlying3 (hval 0 3 v0 rfl rfl)
  obtain rfl : a0 = y0 := by have e_ := List.cons.inj (show [Value.int .i64 y0] = [Value.int .i64 a0] from K0); injection e_.1 with k_ e_; exact e_.symm
  obtain ⟨y1, rfl⟩ := okWide_int Try.underlying3 (hval 1 3 v1 rfl rfl)
  obtain rfl : a1 = y1 := by have e_ := List.cons.inj (show [Value.int .i64 y1] = [Value.int .i64 a1] from K1); injection e_.1 with k_ e_; exact e_.symm
  obtain ⟨b2, len2, cap2, rfl⟩ := okWide_slice Try.underlying49 (hval 2 49 v2 rfl rfl)
  obtain ⟨A2, c2, e2, hc2, hr2⟩ := K2
  obtain ⟨rfl, rfl, rfl⟩ : b2 = A2 ∧ len2 = l2.length ∧ cap2 = c2 := by have e_ := List.cons.inj (show [Value.slice b2 len2 cap2] = [Value.slice A2 l2.length c2] from e2); injection e_.1 with x_ y_ z_; exact ⟨x_, y_, z_⟩
  clear hA0 hval0 hsz0 hsz
  obtain ⟨k, hP⟩ := Pure.PortPlays a0 a1 l2 B0 B1 B2.1 (fun e_ he_ => ⟨(B2.2.2 e_ he_).1, (B2.2.2 e_ he_).2.1, (B2.2.2 e_ he_).2.2.1.1, (B2.2.2 e_ he_).2.2.1.2.1.1.1, (fun g_ hg_ => ((B2.2.2 e_ he_).2.2.1.2.1.1.2.2 g_ hg_)), (B2.2.2 e_ he_).2.2.1.2.1.2.1, (fun g_ hg_ => ((B2.2.2 e_ he_).2.2.1.2.1.2.2.2 g_ hg_)), (B2.2.2 e_ he_).2.2.1.2.2.1, (fun g_ hg_ => ((B2.2.2 e_ he_).2.2.1.2.2.2.2 g_ hg_)), (B2.2.2 e_ he_).2.2.2.1⟩)
  refine (PoPlaysH.calls k a0 a1 _ _ l2 true W hr2 hc2 hP).mono fun e W' ⟨he, hb⟩ => ?_
  have bel : Below W.heap.size W W' := hb
  subst he
  exact (show ∃ v, Ending.returned (.bool true) = .returned v ∧ Rows.portPlaysSpec.post enc Try.prog Try.f6 false true false false W _ v W' from ⟨_, rfl, _, _, _, [], _, [], hW', trodAll_mk1 (shut_bool Try.underlying4 _), (trodAll_cons_mk (Below.trod laidOut (by kernel_rfl) (of_decide_eq_true (by kernel_rfl)) h0 bel lt0) (trodAll_cons_mk (Below.trod laidOut (by kernel_rfl) (of_decide_eq_true (by kernel_rfl)) h1 bel lt1) (trodAll_cons_mk (Below.trod laidOut (by kernel_rfl) (of_decide_eq_true (by kernel_rfl)) h2 bel lt2) trodAll_mk0))), rfl, bel.frame _, fun h => by cases h⟩)
theorem over : Rows.portPlaysRow.holds Try.pinned (OpenSpec.ofChange Rows.portPlaysSpec) :=
  OpenClaim.holds_of_wide 6 Try.f6 rfl rfl rfl rfl rfl rfl rfl ⟨rfl, rfl, rfl, rfl, rfl⟩ rfl rfl rfl rfl rfl (by kernel_rfl) Try.func6 (by kernel_rfl)
    (of_decide_eq_true (by kernel_rfl)) (by unfold Func.isWrapper; first | (rw [if_pos (by decide +kernel)]; kernel_rfl) | (rw [if_neg (by decide +kernel)]; exact ⟨rfl, rfl⟩))
    (fun os started H enc _ => lifted os started H enc)
end Go.Proofs.Ytclhddldbfdfdaa.portPlays
namespace Go.Proofs.Ytclhddldbfdfdaa
/-- The row, under a short name, for the claim. -/
theorem portPlays_holds : Rows.PortPlaysSaid := portPlays.over
#print axioms portPlays_holds
end Go.Proofs.Ytclhddldbfdfdaa
