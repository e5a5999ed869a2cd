/- What is written with percent signs is read as it was: texts, targets. -/
import Derived.Test.YtkaacdfikaggfaaSemUri3
namespace Go.Proofs.Ytkaacdfikaggfaa.Sem
open Go.RowKit Go.Proofs.YtkaacdfikaggfaaW.PrintWords Go.Proofs.Ytkaacdfikaggfaa.PA Go.Proofs.Ytkaacdfikaggfaa.Bs Go.Proofs.Ytkaacdfikaggfaa.UriF Go.Proofs.Ytkaacdfikaggfaa.UriD
set_option linter.unusedVariables false
def encS (s : ByteArray) : ByteArray := strOfNums (encL (bytesOf s))
theorem bytes_encS (s : ByteArray) : bytesOf (encS s) = encL (bytesOf s) := bytesOf_strOfNums (encL_byte (bytesOf_byte s))
theorem size_encS (s : ByteArray) : (encS s).size ≤ 3 * s.size := by
  have h := encL_len (bytesOf s)
  rw [bytesOf_length] at h
  unfold encS
  rw [size_strOfNums]; exact h
theorem decode_encS (s : ByteArray) (b : Bool) : decodeR (encS s) b = (s, 0, 0) := by
  unfold decodeR decL
  rw [bytes_encS, decA_encL b _ (bytesOf_byte s), List.nil_append, strOfNums_bytesOf]
/-- What stands in a text with percent signs. -/
def okB (x : Int) : Prop := 36 ≤ x ∧ x ≤ 126 ∧ x ≠ 38 ∧ x ≠ 61 ∧ x ≠ 63
theorem enc1_ok {c : Int} (hc : isByte c) : ∀ x ∈ enc1 c, okB x := by
  unfold isByte at hc
  unfold enc1
  by_cases h : plainB c = true
  · rw [if_pos h]
    intro x hx
    obtain rfl := List.mem_singleton.1 hx
    unfold plainB at h
    have := of_decide_eq_true h
    unfold okB; omega
  · rw [if_neg h]
    intro x hx
    simp only [List.mem_cons, List.not_mem_nil, or_false] at hx
    unfold hexd at hx
    unfold okB
    rcases hx with rfl | rfl | rfl
    · omega
    · split <;> omega
    · split <;> omega
theorem encL_ok {l : List Int} (h : ∀ x ∈ l, isByte x) : ∀ x ∈ encL l, okB x := by
  intro x hx
  obtain ⟨c, hc, hx⟩ := List.mem_flatMap.1 hx
  exact enc1_ok (h c hc) x hx
theorem encS_ok (s : ByteArray) : ∀ x ∈ bytesOf (encS s), okB x := by rw [bytes_encS]; exact encL_ok (bytesOf_byte s)
theorem bt_mem {s : ByteArray} {i : Nat} (h : i < s.size) : bt s (i : Int) ∈ bytesOf s := by rw [bt_get h]; exact List.getElem_mem _
theorem bytes_slash (s : ByteArray) : bytesOf ((⟨#[47]⟩ : ByteArray) ++ s) = 47 :: bytesOf s := by rw [bytesOf_append]; rfl
theorem cut_not {c : Int} {s : ByteArray} (h : c ∉ bytesOf s) : cutR c s = (s, ⟨#[]⟩, false) := by
  rcases idxL_cases c (bytesOf s) with ⟨h1, _⟩ | ⟨k, h1, h2, h3, _⟩
  · exact cutR_none h1
  · exact absurd (by rw [← List.take_append_drop k (bytesOf s), h3]; simp) h
theorem target_l0 (p : ByteArray) (hp : p.size ≤ 1048576) (hok : ∀ x ∈ bytesOf p, 36 ≤ x ∧ x ≤ 126 ∧ x ≠ 63) (q : ByteArray) (hq : decodeR p false = (q, 0, 0)) : ∀ (d i k : Nat), p.size - i = d → i ≤ p.size → d < k → uri_Target.l0 k p (p.size : Int) i = some (q, [], 0, 0) := by
  intro d
  induction d with
  | zero =>
    intro i k hd hi hk
    obtain ⟨k, rfl⟩ : ∃ m, k = m + 1 := ⟨k - 1, by omega⟩
    simp only [uri_Target.l0]
    rw [if_neg (by omega)]
    unfold strings_Cut.f
    rw [if_pos (by rfl), if_pos (by omega), Option.bind_some, show bt (⟨#[63]⟩ : ByteArray) 0 = 63 from rfl, cut_not (fun h => (hok 63 h).2.2 rfl)]
    unfold uri_Decode.f decodeF
    rw [if_pos (show p.size ≤ 140737488351232 by omega), hq, Option.bind_some, if_pos rfl, if_neg (by simp)]
  | succ d ih =>
    intro i k hd hi hk
    obtain ⟨k, rfl⟩ : ∃ m, k = m + 1 := ⟨k - 1, by omega⟩
    simp only [uri_Target.l0]
    have hb := hok _ (bt_mem (s := p) (i := i) (by omega))
    rw [if_pos (by omega), if_pos (by omega), if_pos (by omega), show uri_odd.f (bt p i) = some false from by
      unfold uri_odd.f
      rw [if_neg (by omega), if_neg (by omega), show (bt p (i : Int) == 35) = false from by rw [beq_eq_false_iff_ne]; omega], Option.bind_some, if_neg (by decide), show wrap64 ((i : Int) + 1) = ((i + 1 : Nat) : Int) by rw [w64 (by omega)]; omega]
    exact ih (i + 1) k (by omega) (by omega) (by omega)
theorem decode_slash (s : ByteArray) : decodeR ((⟨#[47]⟩ : ByteArray) ++ encS s) false = ((⟨#[47]⟩ : ByteArray) ++ s, 0, 0) := by
  unfold decodeR decL
  rw [bytes_slash, bytes_encS, decA_cons, if_neg (by decide), if_neg (by simp), decA_encL false _ (bytesOf_byte s)]
  refine Prod.ext (bytesOf_inj ?_) rfl
  simp only [List.nil_append]
  rw [bytesOf_strOfNums, bytes_slash]; rfl
  intro x hx
  rcases List.mem_append.1 hx with hx | hx
  · obtain rfl := List.mem_singleton.1 hx; unfold isByte; omega
  · exact bytesOf_byte s x hx
theorem target_eq (s : ByteArray) (h : (encS s).size < 1000) (k : Nat) (hk : 1010 ≤ k) : uri_Target.f k ((⟨#[47]⟩ : ByteArray) ++ encS s) = some ((⟨#[47]⟩ : ByteArray) ++ s, [], 0, 0) := by
  have hz : ((⟨#[47]⟩ : ByteArray) ++ encS s).size = 1 + (encS s).size := by rw [ByteArray.size_append]; rfl
  unfold uri_Target.f strings_HasPrefix.f
  rw [if_neg (by omega), Option.bind_some, show Lib.hasPrefix ((⟨#[47]⟩ : ByteArray) ++ encS s).data.toList (⟨#[47]⟩ : ByteArray).data.toList = true from by
    rw [ByteArray.data_append]; simp [Lib.hasPrefix], if_pos rfl]
  refine target_l0 _ (by omega) ?_ _ (decode_slash s) _ 0 k rfl (by omega) (by omega)
  rw [bytes_slash]
  intro x hx
  rcases List.mem_cons.1 hx with rfl | hx
  · omega
  · have := encS_ok s x hx; unfold okB at this; omega
end Go.Proofs.Ytkaacdfikaggfaa.Sem
