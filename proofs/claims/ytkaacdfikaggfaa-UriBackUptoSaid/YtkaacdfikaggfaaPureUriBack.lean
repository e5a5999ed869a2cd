/- The pure statement of UriBack. -/
import Derived.Test.YtkaacdfikaggfaaStUriBack
import Derived.Test.YtkaacdfikaggfaaSemUri4
namespace Go.Proofs.Ytkaacdfikaggfaa
open Go.RowKit YtkaacdfikaggfaaW.PrintWords Go.Proofs.Ytkaacdfikaggfaa.PA Go.Proofs.Ytkaacdfikaggfaa.Bs Go.Proofs.Ytkaacdfikaggfaa.UriF Go.Proofs.Ytkaacdfikaggfaa.UriD Go.Proofs.Ytkaacdfikaggfaa.Sem
theorem Sem.awake06 : cloisterlaw06_awake.f = some true := by decide +kernel
theorem Sem.back_l0 (s : ByteArray) (hs : s.size ≤ 1048576) : ∀ (d i k : Nat), (encS s).size - i = d → i ≤ (encS s).size → d + 1020 < k → cloisterlaw06_UriBack.l0 k s (encS s) s 0 s 0 i = some true := by
  have hz := size_encS s
  intro d
  induction d with
  | zero =>
    intro i k hd hi hk
    obtain ⟨k, rfl⟩ : ∃ m, k = m + 1 := ⟨k - 1, by omega⟩
    simp only [cloisterlaw06_UriBack.l0]
    rw [if_neg (by omega)]
    by_cases h : (encS s).size < 1000
    · rw [if_pos (by omega), if_pos (by omega), target_eq s h k (by omega), Option.bind_some]
      simp only [if_true, List.length_nil]
      rw [if_pos (by omega), if_pos (by rfl), Sem.awake06]; rfl
    · rw [if_neg (by omega)]
      simp only [if_true]
      rw [Sem.awake06]; rfl
  | succ d ih =>
    intro i k hd hi hk
    obtain ⟨k, rfl⟩ : ∃ m, k = m + 1 := ⟨k - 1, by omega⟩
    have hb := encS_ok s _ (bt_mem (s := encS s) (i := i) (by omega))
    unfold okB at hb
    simp only [cloisterlaw06_UriBack.l0]
    rw [if_pos (by omega), if_pos (by omega), if_neg (by omega), if_neg (by omega), show wrap64 ((i : Int) + 1) = ((i + 1 : Nat) : Int) by rw [w64 (by omega)]; omega]
    exact ih (i + 1) k (by omega) (by omega) (by omega)
theorem Pure.UriBack : UriBack.Pure := by
  intro s hs hb
  have hz := size_encS s
  refine ⟨(encS s).size + 1030, ?_⟩
  unfold cloisterlaw06_UriBack.f uri_Encode.f encodeF
  rw [if_pos (by omega), Option.bind_some]
  show ((uri_Decode.f (encS s) false).bind fun bt224 => ((uri_Decode.f (encS s) true).bind fun bt227 => (cloisterlaw06_UriBack.l0 _ s (encS s) bt224.1 bt224.2.1 bt227.1 bt227.2.1 0))) = some true
  unfold uri_Decode.f decodeF
  rw [if_pos (by omega), if_pos (by omega), Option.bind_some, Option.bind_some, decode_encS, decode_encS]
  exact Sem.back_l0 s (by omega) _ 0 _ rfl (by omega) (by omega)
end Go.Proofs.Ytkaacdfikaggfaa
