/- The pure statement of UriDecodes. -/
import Derived.Test.YtkaacdfikaggfaaStUriDecodes
import Derived.Test.YtkaacdfikaggfaaSemUri1
namespace Go.Proofs.Ytkaacdfikaggfaa
open Go.RowKit YtkaacdfikaggfaaW.PrintWords Go.Proofs.Ytkaacdfikaggfaa.PA Go.Proofs.Ytkaacdfikaggfaa.Bs Go.Proofs.Ytkaacdfikaggfaa.UriF
theorem Sem.awake06 : cloisterlaw06_awake.f = some true := by decide +kernel
theorem Pure.UriDecodes : UriDecodes.Pure := by
  intro s plus hs hb
  refine ⟨2 * s.size + 8, ?_⟩
  unfold cloisterlaw06_UriDecodes.f uri_Decode.f uri_Encode.f cloisterref06_Encode.f decodeF encodeF
  rw [if_pos hs, Option.bind_some, Sem.rdecode_eq s hs plus _ (Nat.le_refl _), Option.bind_some, if_pos rfl, if_pos rfl, if_pos rfl, if_pos (by omega), Option.bind_some, Option.bind_some, if_pos rfl, Sem.awake06]; rfl
end Go.Proofs.Ytkaacdfikaggfaa
