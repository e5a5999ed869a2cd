/- What Lay leaves, plainly. -/
import Derived.Test.YtkjdhhdkfbkgpaaEpNob
namespace Go.Proofs.Ytkjdhhdkfbkgpaa.VmW
open Go.RowKit Go.Proofs.YtkjdhhdkfbkgpaaW.PrintWords Go.Proofs.YtkjdhhdkfbkgpaaW.PrintMore Go.Proofs.YtkjdhhdkfbkgpaaW.PrintLast Go.Proofs.Ytkjdhhdkfbkgpaa.Pvm
set_option linter.unusedVariables false
set_option linter.unusedSimpArgs false
theorem layO_len (o : List Bool) (a : Nat) : ∀ n, (layO o a n).length = o.length
  | 0 => rfl
  | n + 1 => by unfold layO; rw [List.length_set, layO_len o a n]
theorem layO_get (a : Nat) : ∀ n k, k < 16 → a + n ≤ 4096 → ((layO (List.replicate 16 false) a n).getD k false = true ↔ ∃ j, j < n ∧ (a + j) / 256 = k)
  | 0, k, hk, _ => by
    unfold layO
    rw [List.getD_eq_getElem?_getD, List.getElem?_replicate, if_pos hk]
    simp
  | n + 1, k, hk, hb => by
    have ih := layO_get a n k hk (by omega)
    have hl := layO_len (List.replicate 16 false) a n
    unfold layO
    by_cases e : (a + n) / 256 = k
    · rw [List.getD_eq_getElem?_getD, ← e, List.getElem?_set_self (by rw [hl]; simp; omega)]
      simp only [Option.getD_some, true_iff]
      exact ⟨n, by omega, rfl⟩
    · rw [List.getD_eq_getElem?_getD, List.getElem?_set_ne e, ← List.getD_eq_getElem?_getD, ih]
      constructor
      · rintro ⟨j, h1, h2⟩; exact ⟨j, by omega, h2⟩
      · rintro ⟨j, h1, h2⟩
        refine ⟨j, ?_, h2⟩
        rcases Nat.lt_or_ge j n with h | h
        · exact h
        · have : j = n := by omega
          subst this; exact absurd h2 e
theorem filter_range (p q : Nat) : ∀ N, (List.range N).filter (fun i => decide (p ≤ i ∧ i ≤ q)) = List.range' p (min N (q + 1) - p)
  | 0 => by simp
  | N + 1 => by
    rw [List.range_succ, List.filter_append, filter_range p q N]
    by_cases h : p ≤ N ∧ N ≤ q
    · rw [show min (N + 1) (q + 1) - p = (min N (q + 1) - p) + 1 by omega, List.range'_concat]
      simp only [List.filter_cons, List.filter_nil, decide_eq_true h, if_true]
      congr 2
      omega
    · rw [show min (N + 1) (q + 1) - p = min N (q + 1) - p by omega]
      simp [h]
theorem pagesL_laid {a n : Nat} (hn : 0 < n) (hb : a + n ≤ 4096) : pagesL (layO (List.replicate 16 false) a n) 16 = (List.range' (a / 256) ((a + n - 1) / 256 + 1 - a / 256)).map fun i : Nat => (i : Int) := by
  unfold pagesL
  have e : (List.range 16).filter (fun i => (layO (List.replicate 16 false) a n).getD i false) = (List.range 16).filter (fun i => decide (a / 256 ≤ i ∧ i ≤ (a + n - 1) / 256)) := by
    apply List.filter_congr
    intro i hi
    have hi : i < 16 := List.mem_range.1 hi
    rw [Bool.eq_iff_iff, layO_get a n i hi hb, decide_eq_true_iff]
    constructor
    · rintro ⟨j, h1, h2⟩; omega
    · rintro ⟨h1, h2⟩
      by_cases h : 256 * i ≤ a
      · exact ⟨0, by omega, by omega⟩
      · exact ⟨256 * i - a, by omega, by omega⟩
  rw [e, filter_range]
  congr 2
  omega
theorem layB_get (b : List Int) (a : Nat) (s : ByteArray) (hs : a + s.size ≤ b.length) : ∀ n, n ≤ s.size → ∀ k, (layB b a s n)[k]? = if a ≤ k ∧ k < a + n then some (imgAt s (k - a)) else b[k]?
  | 0, _, k => by unfold layB; rw [if_neg (by omega)]
  | n + 1, h, k => by
    have ih := layB_get b a s hs n (by omega) k
    have hl : (layB b a s n).length = b.length := by
      clear ih h
      induction n with
      | zero => rfl
      | succ n ih => unfold layB; rw [List.length_set, ih]
    unfold layB
    by_cases e : a + n = k
    · subst e
      rw [List.getElem?_set_self (by omega), if_pos (by omega), show a + n - a = n by omega]
    · rw [List.getElem?_set_ne e, ih]
      by_cases h2 : a ≤ k ∧ k < a + n
      · rw [if_pos h2, if_pos (by omega)]
      · rw [if_neg h2, if_neg (by omega)]
theorem imgAt_u8 (s : ByteArray) {j : Nat} (h : j < s.size) : UInt8.ofNat (imgAt s j).toNat = s.data[j]'h := by
  unfold imgAt
  rw [dif_pos h, Int.toNat_natCast, UInt8.ofNat_toNat]
  rfl
theorem text_laid (b : List Int) (a : Nat) (s : ByteArray) (hs : a + s.size ≤ b.length) : strOfNums (layB b a s s.size) = (strOfNums b).extract 0 a ++ s ++ (strOfNums b).extract (a + s.size) (strOfNums b).size := by
  have hsz := strOfNums_size b
  apply ByteArray.ext
  apply Array.ext'
  rw [ByteArray.data_append, ByteArray.data_append, ByteArray.data_extract, ByteArray.data_extract, Array.toList_append, Array.toList_append, Array.toList_extract, Array.toList_extract, strOfNums_data, strOfNums_data]
  apply List.ext_getElem?
  intro k
  have hsl : s.data.toList.length = s.size := rfl
  rw [List.getElem?_map, layB_get b a s hs s.size (Nat.le_refl _) k, List.extract_eq_take_drop, List.extract_eq_take_drop, Nat.sub_zero, List.drop_zero, hsz]
  by_cases h1 : k < a
  · rw [if_neg (by omega), List.append_assoc, List.getElem?_append_left (by simp; omega), List.getElem?_take_of_lt h1, List.getElem?_map]
  · by_cases h2 : k < a + s.size
    · rw [if_pos (by omega), List.append_assoc, List.getElem?_append_right (by simp; omega), List.getElem?_append_left (by rw [hsl]; simp; omega)]
      simp only [List.length_take, List.length_map]
      rw [show min a b.length = a by omega, Option.map_some, imgAt_u8 s (show k - a < s.size by omega)]
      exact (List.getElem?_eq_getElem (l := s.data.toList) (by rw [hsl]; omega)).symm
    · rw [if_neg (by omega), List.getElem?_append_right (by simp [hsl]; omega)]
      simp only [List.length_append, List.length_take, List.length_map, hsl]
      rw [show min a b.length = a by omega]
      by_cases h3 : k < b.length
      · rw [List.getElem?_take_of_lt (by omega), List.getElem?_drop, List.getElem?_map, show a + s.size + (k - (a + s.size)) = k by omega]
      · rw [List.getElem?_take_eq_none (by omega), List.getElem?_eq_none (by omega)]
        rfl
end Go.Proofs.Ytkjdhhdkfbkgpaa.VmW
