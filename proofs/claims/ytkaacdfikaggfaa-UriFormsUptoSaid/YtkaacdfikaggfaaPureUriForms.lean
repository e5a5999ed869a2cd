/- The pure statement of UriForms. -/
import Derived.Test.YtkaacdfikaggfaaStUriForms
import Derived.Test.YtkaacdfikaggfaaSemUri3
namespace Go.Proofs.Ytkaacdfikaggfaa
open Go.RowKit YtkaacdfikaggfaaW.PrintWords Go.Proofs.Ytkaacdfikaggfaa.PA Go.Proofs.Ytkaacdfikaggfaa.Bs Go.Proofs.Ytkaacdfikaggfaa.UriF
theorem Sem.awake06 : cloisterlaw06_awake.f = some true := by decide +kernel
theorem Pure.UriForms : UriForms.Pure := by
  intro s hs hb
  refine ⟨5 * s.size + 40, ?_⟩
  have hl : (Sem.outM (UriD.formR s)).1.length ≤ s.size + 1 := by have := Sem.formR_len s; simp only [Sem.outM, List.length_map]; exact this
  obtain ⟨r, hr⟩ := Sem.spoil_some (Sem.outM (UriD.formR s)).1 (by omega) (5 * s.size + 39) (by omega)
  unfold cloisterlaw06_UriForms.f
  rw [Sem.uform_eq s (by omega), Option.bind_some, Sem.rform_eq s (by omega) _ (by omega), Option.bind_some, Sem.same_self _ (by omega) _ (by omega), Option.bind_some, if_pos rfl, if_pos rfl]
  simp only [cloisterlaw06_UriForms.j0, beq_self_eq_true]
  rw [hr, Option.bind_some, Sem.uform_eq s (by omega), Option.bind_some, if_pos trivial, Sem.same_self _ (by omega) _ (by omega), Option.bind_some, if_pos rfl, Sem.awake06]; rfl
end Go.Proofs.Ytkaacdfikaggfaa
