/- The pure statement of UriPairs. -/
import Derived.Test.YtkaacdfikaggfaaStUriPairs
import Derived.Test.YtkaacdfikaggfaaSemUri5
namespace Go.Proofs.Ytkaacdfikaggfaa
open Go.RowKit YtkaacdfikaggfaaW.PrintWords Go.Proofs.Ytkaacdfikaggfaa.PA Go.Proofs.Ytkaacdfikaggfaa.Bs Go.Proofs.Ytkaacdfikaggfaa.UriF Go.Proofs.Ytkaacdfikaggfaa.UriD Go.Proofs.Ytkaacdfikaggfaa.Sem
theorem Sem.awake06 : cloisterlaw06_awake.f = some true := by decide +kernel
theorem Pure.UriPairs : UriPairs.Pure := by
  intro l hl hm hb
  have hbk : bkL l ≤ 1048576 := by unfold bkL; omega
  have hlen : l.length ≤ 1048576 := by
    have : l.length ≤ bkL l := by
      unfold bkL
      clear hl hm hb hbk
      induction l with
      | nil => simp
      | cons x r ih => simp only [List.length_cons, List.map_cons, List.sum_cons]; omega
    omega
  obtain ⟨s, hs, hbs, hz⟩ := print_eq l hbk hlen (l.length + 2) (by omega)
  have hf : uri_Form.f s = some (outM (formR s)) := by unfold uri_Form.f; rw [if_pos (by omega)]; rfl
  have hr : formR s = if l.length > 32 then ([], 2, 0) else (l.map (fun x => (x.f0, x.f1)), 0, 0) := by
    rw [formR_fin, formSt_join l s hbs, fin_ok, List.length_map]
  refine ⟨l.length + 2, ?_⟩
  unfold cloisterlaw06_UriPairs.f
  rw [hs, Option.bind_some, hf, Option.bind_some, hr]
  by_cases h : l.length > 32
  · rw [if_pos h, if_pos (by omega)]
    simp only [outM, if_true]
    rw [Sem.awake06]; rfl
  · have e : (l.map (fun x => (x.f0, x.f1))).map mk52 = l := by
      rw [List.map_map]
      exact List.map_id'' (fun x => rfl) l
    rw [if_neg h, if_neg (by omega)]
    simp only [outM, if_true, e]
    rw [same_self l (by omega) _ (by omega), Option.bind_some, if_pos rfl, Sem.awake06]; rfl
end Go.Proofs.Ytkaacdfikaggfaa
