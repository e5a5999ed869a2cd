/- What the printed functions of rows come to. -/
import Derived.Test.YthphoifaingbkaaPQx2
import Derived.Test.YthphoifaingbkaaRowChk
namespace Go.Proofs.Ythphoifaingbkaa.Sem
open Go.RowKit Go.Proofs.YthphoifaingbkaaW.PrintWords Go.Proofs.Ythphoifaingbkaa.LabelB Go.Proofs.Ythphoifaingbkaa.PQ
set_option linter.unusedVariables false

/-! ### the references' small ones -/
def risesB : List Int → Bool
  | a :: b :: r => decide (a < b) && risesB (b :: r)
  | _ => true
theorem rises_l0 (a : List Int) (hm : a.length ≤ 9223372036854775807) : ∀ (d i k : Nat), a.length - i = d → 1 ≤ i → (i ≤ a.length ∨ i = 1) → d < k → cloisterref01_Rises.l0 k a (i : Int) = some (risesB (a.drop (i - 1))) := by
  intro d
  induction d with
  | zero =>
    intro i k h h1 hi hk
    obtain ⟨k, rfl⟩ : ∃ m, k = m + 1 := ⟨k - 1, by omega⟩
    unfold cloisterref01_Rises.l0
    rw [if_neg (by omega)]
    congr 1
    match hd : a.drop (i - 1) with
    | [] => rfl
    | [x] => rfl
    | x :: y :: r => have := congrArg List.length hd; simp at this; omega
  | succ d ih =>
    intro i k h h1 hi hk
    obtain ⟨k, rfl⟩ : ∃ m, k = m + 1 := ⟨k - 1, by omega⟩
    have ha : i < a.length := by omega
    have hb : i - 1 < a.length := by omega
    unfold cloisterref01_Rises.l0
    rw [show wrap64 ((i : Int) - 1) = ((i - 1 : Nat) : Int) from by unfold wrap64; omega, if_pos (by omega), if_pos (by omega), if_pos (by omega), if_pos (by omega), rd_nat ha, rd_nat hb, w64s ha hm, ih (i + 1) k (by omega) (by omega) (by omega) (by omega), List.drop_eq_getElem_cons hb, show i + 1 - 1 = i by omega, show i - 1 + 1 = i by omega, List.drop_eq_getElem_cons ha]
    by_cases he : a[i - 1] < a[i]
    · rw [if_neg (by omega)]; simp [risesB, he]
    · rw [if_pos (by omega)]; simp [risesB, he]
theorem rises_eq (a : List Int) (hm : a.length ≤ 9223372036854775807) (k : Nat) (hk : a.length < k) : cloisterref01_Rises.f k a = some (risesB a) := by
  have := rises_l0 a hm (a.length - 1) 1 k rfl (Nat.le_refl _) (.inr rfl) (show a.length - 1 < k by omega)
  simpa [cloisterref01_Rises.f] using this
def catB (c : Int) : Bool := decide (1 ≤ c) && decide (c ≤ 2147483647)
theorem rcats_l0 (a : List Int) (hm : a.length ≤ 9223372036854775807) : ∀ (d i k : Nat), a.length - i = d → i ≤ a.length → d + a.length + 1 < k → cloisterref02_Cats.l0 k a (i : Int) = some ((a.drop i).all catB && risesB a) := by
  intro d
  induction d with
  | zero =>
    intro i k h hi hk
    obtain ⟨k, rfl⟩ : ∃ m, k = m + 1 := ⟨k - 1, by omega⟩
    unfold cloisterref02_Cats.l0
    rw [if_neg (by omega), List.drop_of_length_le (by omega), rises_eq a hm k (by omega)]; rfl
  | succ d ih =>
    intro i k h hi hk
    obtain ⟨k, rfl⟩ : ∃ m, k = m + 1 := ⟨k - 1, by omega⟩
    have ha : i < a.length := by omega
    unfold cloisterref02_Cats.l0
    rw [if_pos (by omega), if_pos (by omega), rd_nat ha, w64s ha hm, ih (i + 1) k (by omega) (by omega) (by omega), List.drop_eq_getElem_cons ha]
    generalize a[i] = x, a.drop (i + 1) = p
    by_cases h1 : x < 1
    · rw [if_pos h1]; simp [catB, show ¬ (1 ≤ x) by omega]
    · rw [if_neg h1]
      by_cases h2 : x > 2147483647
      · rw [if_pos h2]; simp [catB, show ¬ (x ≤ 2147483647) by omega]
      · rw [if_neg h2]; simp [catB, show 1 ≤ x by omega, show x ≤ 2147483647 by omega]
theorem catsP_eq : ∀ (l : List Int) (last : Int), 0 ≤ last → catsP last l = (l.all catB && risesB (last :: l)) := by
  intro l
  induction l with
  | nil => intro last _; rfl
  | cons a r ih =>
    intro last h0
    simp only [catsP, risesB, List.all_cons]
    by_cases h1 : a ≤ last
    · rw [if_pos h1]; simp [show ¬ last < a by omega]
    · rw [if_neg h1]
      by_cases h2 : a > 2147483647
      · rw [if_pos h2]; simp [catB, show ¬ a ≤ 2147483647 by omega]
      · rw [if_neg h2, ih a (by omega)]; simp [catB, show 1 ≤ a by omega, show a ≤ 2147483647 by omega, show last < a by omega]
theorem catsP_zero (l : List Int) : catsP 0 l = (l.all catB && risesB l) := by
  rw [catsP_eq l 0 (by omega)]
  cases l with
  | nil => rfl
  | cons a r =>
    simp only [risesB, List.all_cons]
    by_cases h : 1 ≤ a
    · simp [show (0 : Int) < a by omega]
    · simp [catB, h]
theorem rcats_eq (a : List Int) (hm : a.length ≤ 9223372036854775807) (k : Nat) (hk : a.length + a.length + 1 < k) : cloisterref02_Cats.f k a = some (catsP 0 a) := by
  have := rcats_l0 a hm a.length 0 k (by omega) (by omega) hk
  rw [catsP_zero]
  simpa [cloisterref02_Cats.f] using this
theorem lmay_eq (a b : List Int) (k : Nat) (hk : 130 < k) : cloisterref02_May.f k a b = some (okL a b) := by
  unfold cloisterref02_May.f okL
  by_cases h0 : a.length ≤ 64
  · by_cases h1 : b.length ≤ 64
    · rw [if_pos (by omega), if_pos (by omega), rcats_eq a (by omega) k (by omega), Option.bind_some, rcats_eq b (by omega) k (by omega)]
      cases catsP 0 a <;> cases catsP 0 b <;> simp [h0, h1]
    · rw [if_pos (by omega), if_neg (by omega)]; simp [h1]
  · rw [if_neg (by omega)]; simp [h0]

/-! ### rows that may be -/
theorem cells_l0 (a : List ByteArray) (hm : a.length ≤ 9223372036854775807) : ∀ (d i k : Nat), a.length - i = d → i ≤ a.length → d < k → cloisterref11_Cells.l0 k a (i : Int) = some ((a.drop i).all (fun c => decide (c.size ≤ 256)) && decide (a.length ≤ 8)) := by
  intro d
  induction d with
  | zero =>
    intro i k h hi hk
    obtain ⟨k, rfl⟩ : ∃ m, k = m + 1 := ⟨k - 1, by omega⟩
    unfold cloisterref11_Cells.l0
    rw [if_neg (by omega), List.drop_of_length_le (by omega)]
    simp; omega
  | succ d ih =>
    intro i k h hi hk
    obtain ⟨k, rfl⟩ : ∃ m, k = m + 1 := ⟨k - 1, by omega⟩
    have ha : i < a.length := by omega
    unfold cloisterref11_Cells.l0
    rw [if_pos (by omega), if_pos (by omega), rdOf_nat ha, w64s ha hm, ih (i + 1) k (by omega) (by omega) (by omega), List.drop_eq_getElem_cons ha]
    generalize a[i] = x, a.drop (i + 1) = p
    by_cases h1 : x.size ≤ 256
    · rw [if_neg (by omega)]; simp [h1]
    · rw [if_pos (by omega)]; simp [h1]
theorem may_eq (a0 : ByteArray) (l1 : List ByteArray) (l2 l3 : List Int) (a4 : Int) (hm : l1.length ≤ 9223372036854775807) (k : Nat) (hk : 130 < k) (hk1 : l1.length < k) : cloisterref11_May.f k a0 l1 l2 l3 a4 = some (okRow a0 l1 l2 l3 a4) := by
  have hc := cells_l0 l1 hm l1.length 0 k (by omega) (by omega) hk1
  simp only [List.drop_zero] at hc
  unfold cloisterref11_May.f cloisterref11_Key.f cloisterref11_Cells.f okRow
  rw [show (cloisterref11_Cells.l0 k l1 0) = _ from hc, lmay_eq l2 l3 k hk]
  by_cases h1 : 1 ≤ a0.size
  · rw [if_pos (by omega)]
    by_cases h2 : a0.size ≤ 64
    · by_cases h3 : l1.length ≤ 8
      · cases h4 : l1.all (fun c => decide (c.size ≤ 256)) <;> cases h5 : okL l2 l3 <;> by_cases h6 : -1 ≤ a4 <;> by_cases h7 : a4 < 16 <;> simp [h1, h2, h3, h6, h7] <;> omega
      · simp [h1, h2, h3]
    · simp [h1, h2]; omega
  · rw [if_neg (by omega)]; simp [h1]
theorem rcheck_eq (a0 : ByteArray) (l1 : List ByteArray) (l2 l3 : List Int) (a4 : Int) (k : Nat) (hk : 64 < k) : row_Check.f k a0 l1 l2 l3 a4 = some (if okRow a0 l1 l2 l3 a4 = true then 0 else 110) := ocheck_eq a0 l1 l2 l3 a4 k hk
end Go.Proofs.Ythphoifaingbkaa.Sem
