/- What the reference's pair and Form come to; lists that are the same. -/
import Derived.Test.YtkaacdfikaggfaaSemUri1
import Derived.Test.YtkaacdfikaggfaaPAx3
namespace Go.Proofs.Ytkaacdfikaggfaa.Sem
open Go.RowKit Go.Proofs.YtkaacdfikaggfaaW.PrintWords Go.Proofs.Ytkaacdfikaggfaa.PA Go.Proofs.Ytkaacdfikaggfaa.Bs Go.Proofs.Ytkaacdfikaggfaa.UriF Go.Proofs.Ytkaacdfikaggfaa.UriD
set_option linter.unusedVariables false

def pairP (p : ByteArray) (at_ : Int) : ByteArray × ByteArray × Int × Int :=
  if (decodeR (cutR 61 p).1 true).2.1 = 0 then
    (if (decodeR (cutR 61 p).2.1 true).2.1 = 0 then ((decodeR (cutR 61 p).1 true).1, (decodeR (cutR 61 p).2.1 true).1, 0, 0)
     else (⟨#[]⟩, ⟨#[]⟩, (decodeR (cutR 61 p).2.1 true).2.1, at_ + (cutR 61 p).1.size + 1 + (decodeR (cutR 61 p).2.1 true).2.2))
  else (⟨#[]⟩, ⟨#[]⟩, (decodeR (cutR 61 p).1 true).2.1, at_ + (decodeR (cutR 61 p).1 true).2.2)
theorem scan (p : ByteArray) (hp : p.size ≤ 1048576) (at_ : Int) (n : Nat) (hn : n ≤ p.size) (hne : ∀ i : Nat, i < n → bt p i ≠ 61) (heq : n < p.size → bt p n = 61) : ∀ (d i k : Nat), n - i = d → i ≤ n → cloisterref06_pair.l0 (k + d + 1) p at_ i = cloisterref06_pair.j1 k p at_ n := by
  intro d
  induction d with
  | zero =>
    intro i k hd hi
    obtain rfl : i = n := by omega
    simp only [cloisterref06_pair.l0]
    by_cases h : i < p.size
    · rw [if_pos (by omega), if_pos (by omega), if_pos (heq h)]
    · rw [if_neg (by omega)]
  | succ d ih =>
    intro i k hd hi
    simp only [cloisterref06_pair.l0]
    rw [if_pos (by omega), if_pos (by omega), if_neg (hne i (by omega)), show wrap64 ((i : Int) + 1) = ((i + 1 : Nat) : Int) by rw [w64 (by omega)]; omega]
    exact ih (i + 1) k (by omega) (by omega)
theorem extract_all (s : ByteArray) : s.extract 0 s.size = s := bytesOf_inj (by rw [bytes_tail]; rfl)
theorem not_mem_bt {s : ByteArray} {c : Int} {n : Nat} (hn : n ≤ s.size) (h : c ∉ (bytesOf s).take n) : ∀ i : Nat, i < n → bt s i ≠ c := by
  intro i hi e
  apply h
  rw [← e, bt_get (by omega), List.mem_take_iff_getElem]
  exact ⟨i, by rw [bytesOf_length]; omega, rfl⟩
theorem decodeR_empty (b : Bool) : decodeR ⟨#[]⟩ b = (⟨#[]⟩, 0, 0) := by
  unfold decodeR decL
  rfl
theorem rpair_eq (p : ByteArray) (hp : p.size ≤ 1048576) (at_ : Int) (h0 : 0 ≤ at_) (h1 : at_ ≤ 1048576) (k : Nat) (hk : 3 * p.size + 20 ≤ k) : cloisterref06_pair.f k p at_ = some (pairP p at_) := by
  unfold cloisterref06_pair.f pairP
  have q1 := decodeR_pos (cutR 61 p).1 true
  have q2 := decodeR_pos (cutR 61 p).2.1 true
  have q3 := cutR_sizes 61 p
  rcases idxL_cases 61 (bytesOf p) with ⟨e1, e2⟩ | ⟨n, e1, e2, e3, e4⟩
  · have hs := scan p hp at_ p.size (Nat.le_refl _) (not_mem_bt (Nat.le_refl _) (by rw [List.take_of_length_le (by rw [bytesOf_length]; omega)]; exact e2)) (fun h => absurd h (by omega)) p.size 0 (k - p.size - 1) (by omega) (by omega)
    rw [show k - p.size - 1 + p.size + 1 = k by omega] at hs
    rw [show ((0 : Nat) : Int) = 0 from rfl] at hs
    rw [hs, cutR_none e1] at *
    obtain ⟨m, hm⟩ : ∃ m, k - p.size - 1 = m + 1 := ⟨k - p.size - 2, by omega⟩
    rw [hm]
    simp only [cloisterref06_pair.j1, Int.toNat_natCast]
    rw [if_pos (by omega), if_pos (by omega), extract_all, rdecode_eq p (by omega) true m (by omega), Option.bind_some, decodeR_empty]
    by_cases hx : (decodeR p true).2.1 = 0
    · rw [if_pos hx, if_pos hx]; simp
    · rw [if_neg hx, if_neg hx]
      simp only at q1
      rw [w64 (by omega)]
  · rw [bytesOf_length] at e2
    have hs := scan p hp at_ n (by omega) (not_mem_bt (by omega) e4) (fun h => by rw [drop_bt h] at e3; exact (List.cons.inj e3).1) n 0 (k - n - 1) (by omega) (by omega)
    rw [show k - n - 1 + n + 1 = k by omega] at hs
    rw [show ((0 : Nat) : Int) = 0 from rfl] at hs
    rw [hs]
    rw [cutR_some e1] at *
    obtain ⟨m, hm⟩ : ∃ m, k - n - 1 = m + 1 := ⟨k - n - 2, by omega⟩
    rw [hm]
    simp only [cloisterref06_pair.j1, Int.toNat_natCast]
    have hz : (p.extract 0 n).size = n := by rw [ByteArray.size_extract]; omega
    simp only at q1 q2 q3
    rw [if_pos (by omega), if_pos (by omega), rdecode_eq _ (by omega) true m (by omega), Option.bind_some]
    by_cases hx : (decodeR (p.extract 0 n) true).2.1 = 0
    · rw [if_pos hx, if_pos hx, if_neg (by omega), show wrap64 ((n : Int) + 1) = ((n + 1 : Nat) : Int) by rw [w64 (by omega)]; omega, if_pos (by omega), if_pos (by omega), Int.toNat_natCast, rdecode_eq _ (by omega) true m (by omega), Option.bind_some]
      by_cases hy : (decodeR (p.extract (n + 1) p.size) true).2.1 = 0
      · rw [if_pos hy, if_pos hy]
      · rw [if_neg hy, if_neg hy, hz]
        rw [w64 (x := at_ + (n : Int)) (by omega), w64 (x := at_ + (n : Int) + 1) (by omega), w64 (by omega)]
    · rw [if_neg hx, if_neg hx]
      rw [w64 (by omega)]

def mk52 (x : ByteArray × ByteArray) : S52 := ⟨x.1, x.2⟩
def fin (st : FSt) : FSt := if st.2.1 ≠ 0 then ([], st.2) else if st.1.length > 32 then ([], 2, st.2.2) else (st.1, 0, 0)
theorem fin_ok (l : List (ByteArray × ByteArray)) (x : Int) : fin (l, 0, x) = if l.length > 32 then ([], 2, x) else (l, 0, 0) := by
  unfold fin
  rw [if_neg (show ¬ (((l, 0, x) : FSt).2.1 ≠ 0) by simp)]
theorem formR_fin (s : ByteArray) : formR s = fin (formSt s) := rfl
def outM (r : FSt) : List S52 × Int × Int := (r.1.map mk52, r.2.1, r.2.2)
/-- A step, by the reference's pair. -/
theorem formStep_pair (st : List (ByteArray × ByteArray)) (p : ByteArray) (at_ : Int) (hp : p.size ≠ 0) : formStep (st, 0, 0) p at_ = if (pairP p at_).2.2.1 = 0 then ((st ++ [((pairP p at_).1, (pairP p at_).2.1)], 0, 0), true) else ((st, (pairP p at_).2.2.1, (pairP p at_).2.2.2), false) := by
  unfold formStep pairP
  rw [if_neg hp]
  by_cases hx : (decodeR (cutR 61 p).1 true).2.1 = 0
  · rw [if_neg (by simpa using hx), if_pos hx]
    by_cases hy : (decodeR (cutR 61 p).2.1 true).2.1 = 0
    · rw [if_neg (by simpa using hy), if_pos hy, if_pos rfl]
    · rw [if_pos hy, if_neg hy, if_neg hy]
  · rw [if_pos hx, if_neg hx, if_neg hx]
theorem rform_l0 (s : ByteArray) (hs : s.size ≤ 1048576) : ∀ (d i from_ : Nat) (st : List (ByteArray × ByteArray)) (k : Nat), s.size - i = d → i ≤ s.size → from_ ≤ i → st.length ≤ i → 2 * d + 3 * s.size + 30 ≤ k →
    cloisterref06_Form.l0 k s (st.map mk52) from_ i = some (outM (fin (foldP formStep (st, 0, 0) (pcs 38 ((bytesOf s).drop i) (((bytesOf s).drop from_).take (i - from_)) from_ i)))) := by
  intro d
  induction d with
  | zero =>
    intro i from_ st k hd hi hf hl hk
    obtain rfl : i = s.size := by omega
    obtain ⟨k, rfl⟩ : ∃ m, k = m + 3 := ⟨k - 3, by omega⟩
    have w1 : wrap64 ((s.size : Int) + 1) = (s.size : Int) + 1 := w64 (by omega)
    have done : ∀ (l : List (ByteArray × ByteArray)) (x : Int), cloisterref06_Form.l0 (k + 1) s (l.map mk52) x ((s.size : Int) + 1) = some (outM (fin (l, 0, 0))) := by
      intro l x
      simp only [cloisterref06_Form.l0]
      rw [if_neg (by omega), List.length_map]
      rw [fin_ok]
      unfold outM
      by_cases h : l.length > 32
      · rw [if_pos (by omega), if_pos h]; rfl
      · rw [if_neg (by omega), if_neg h]
    rw [drop_end (Nat.le_refl _), pcs, foldP_one, ← bytesOf_slice s from_ s.size hf, strOfNums_bytesOf]
    simp only [cloisterref06_Form.l0]
    rw [if_pos (by omega), if_neg (by omega)]
    simp only [cloisterref06_Form.j1, if_neg (show ¬ (false = true) by decide)]
    by_cases h : s.size > from_
    · have hz : (s.extract from_ s.size).size = s.size - from_ := tail_size s from_
      rw [if_pos (by omega), if_pos (by omega), if_pos (by omega), if_pos (by omega), Int.toNat_natCast, Int.toNat_natCast, rpair_eq _ (by omega) _ (by omega) (by omega) _ (by omega), Option.bind_some, formStep_pair _ _ _ (by omega)]
      by_cases hx : (pairP (s.extract from_ s.size) from_).2.2.1 = 0
      · rw [if_pos hx, if_pos hx, if_pos (by rw [List.length_map]; omega), w1]
        have := done (st ++ [((pairP (s.extract from_ s.size) from_).1, (pairP (s.extract from_ s.size) from_).2.1)]) ((s.size : Int) + 1)
        rw [List.map_append] at this
        exact this
      · rw [if_neg hx, if_neg hx]
        unfold fin outM
        rw [if_pos hx]; rfl
    · rw [if_neg (by omega), w1, done]
      have hz : (s.extract from_ s.size).size = 0 := by rw [tail_size]; omega
      unfold formStep
      rw [if_pos hz]
  | succ d ih =>
    intro i from_ st k hd hi hf hl hk
    have hlt : i < s.size := by omega
    obtain ⟨k, rfl⟩ : ∃ m, k = m + 2 := ⟨k - 2, by omega⟩
    have w1 : wrap64 ((i : Int) + 1) = ((i + 1 : Nat) : Int) := by rw [w64 (by omega)]; omega
    rw [drop_bt hlt, pcs]
    simp only [cloisterref06_Form.l0]
    rw [if_pos (by omega), if_pos (by omega), if_pos (by omega)]
    by_cases hc : bt s i = 38
    · rw [if_pos hc, show (bt s (i : Int) != 38) = false from by simp [hc]]
      simp only [cloisterref06_Form.j1, if_neg (show ¬ (false = true) by decide)]
      rw [foldP, ← bytesOf_slice s from_ i hf, strOfNums_bytesOf, w1]
      have e1 : ((i : Int) + 1) = ((i + 1 : Nat) : Int) := by omega
      rw [e1]
      have en : ((bytesOf s).drop (i + 1)).take (i + 1 - (i + 1)) = [] := by simp
      by_cases h : i > from_
      · have hz : (s.extract from_ i).size = i - from_ := by rw [ByteArray.size_extract]; omega
        rw [if_pos (by omega), if_pos (by omega), if_pos (by omega), if_pos (by omega), Int.toNat_natCast, Int.toNat_natCast, rpair_eq _ (by omega) _ (by omega) (by omega) _ (by omega), Option.bind_some, formStep_pair _ _ _ (by omega)]
        by_cases hx : (pairP (s.extract from_ i) from_).2.2.1 = 0
        · rw [if_pos hx, if_pos hx, if_pos (by rw [List.length_map]; omega)]
          have := ih (i + 1) (i + 1) (st ++ [((pairP (s.extract from_ i) from_).1, (pairP (s.extract from_ i) from_).2.1)]) k (by omega) (by omega) (by omega) (by simp; omega) (by omega)
          rw [List.map_append, en] at this
          exact this
        · rw [if_neg hx, if_neg hx]
          unfold fin outM
          simp only [if_neg (show ¬ (false = true) by decide)]
          rw [if_pos hx]; rfl
      · have hz : (s.extract from_ i).size = 0 := by rw [ByteArray.size_extract]; omega
        rw [if_neg (by omega)]
        have := ih (i + 1) (i + 1) st k (by omega) (by omega) (by omega) (by omega) (by omega)
        rw [en] at this
        rw [this, show formStep (st, 0, 0) (s.extract from_ i) from_ = ((st, 0, 0), true) from by unfold formStep; rw [if_pos hz]]
        rfl
    · rw [if_neg hc, show (bt s (i : Int) != 38) = true from by simp [hc]]
      simp only [cloisterref06_Form.j1, if_true]
      rw [w1, ih (i + 1) from_ st k (by omega) (by omega) (by omega) (by omega) (by omega)]
      have et : ((bytesOf s).drop from_).take (i + 1 - from_) = ((bytesOf s).drop from_).take (i - from_) ++ [bt s i] := by
        rw [show i + 1 - from_ = (i - from_) + 1 by omega, List.take_succ_eq_append_getElem (by rw [List.length_drop, bytesOf_length]; omega), bt_get hlt]
        congr 2
        rw [List.getElem_drop]
        congr 1; omega
      rw [et, show ((i + 1 : Nat) : Int) = (i : Int) + 1 by omega]
theorem rform_eq (s : ByteArray) (hs : s.size ≤ 1048576) (k : Nat) (hk : 5 * s.size + 30 ≤ k) : cloisterref06_Form.f k s = some (outM (formR s)) := by
  have := rform_l0 s hs s.size 0 0 [] k (by omega) (by omega) (by omega) (by simp) (by omega)
  unfold cloisterref06_Form.f
  rw [show ((0 : Nat) : Int) = 0 from rfl] at this
  rw [show ([] : List S52) = [].map mk52 from rfl, this, formR_fin]; rfl
theorem uform_eq (s : ByteArray) (hs : s.size ≤ 1048576) : uri_Form.f s = some (outM (formR s)) := by
  unfold uri_Form.f
  rw [if_pos (by omega)]; rfl
end Go.Proofs.Ytkaacdfikaggfaa.Sem
