/- What row.Of's readers, and label.Of, come to. -/
import Derived.Test.YthphoifaingbkaaRowRd1
import Derived.Test.YthphoifaingbkaaRowOf2
import Derived.Test.YthphoifaingbkaaPofx
namespace Go.Proofs.Ythphoifaingbkaa.Sem
open Go.RowKit Go.Proofs.YthphoifaingbkaaW.PrintWords Go.Proofs.YthphoifaingbkaaW.PrintMore Go.Proofs.Ythphoifaingbkaa.LabelB Go.Proofs.Ythphoifaingbkaa.RowOf Go.Proofs.Ythphoifaingbkaa.Pof
set_option linter.unusedVariables false

theorem drop_bt {s : ByteArray} {a : Nat} (h : a < s.size) : (bytesOf s).drop a = bt s (a : Int) :: (bytesOf s).drop (a + 1) := by
  have hl : a < (bytesOf s).length := by rw [bytesOf_length]; exact h
  rw [List.drop_eq_getElem_cons hl]
  congr 1
  simp only [bytesOf, List.getElem_map, bt, Int.toNat_natCast]
  rw [dif_pos h]; rfl
theorem drop_end {s : ByteArray} {a : Nat} (h : s.size ≤ a) : (bytesOf s).drop a = [] := List.drop_of_length_le (by rw [bytesOf_length]; exact h)
/-- What a reader of a number tells, against the list's. -/
def Reads {β : Type} (s : ByteArray) (o : Option (Int × List Int)) (x : β) (good : Int → Nat → β) (bad : β → Prop) : Prop :=
  (∃ v b, o = some (v, (bytesOf s).drop b) ∧ b ≤ s.size ∧ x = good v b) ∨ (o = none ∧ bad x)
theorem pow_i {i : Nat} (hi : i ≤ 5) : (2 : Int) ^ (7 * i) ≤ 34359738368 := by
  have : (2 : Nat) ^ (7 * i) ≤ 2 ^ 35 := Nat.pow_le_pow_right (by decide) (by omega)
  have h : ((2 ^ (7 * i) : Nat) : Int) ≤ ((2 ^ 35 : Nat) : Int) := by exact_mod_cast this
  simpa using h
theorem next_bound {n c : Int} {i : Nat} (h0 : 0 ≤ n) (h1 : n < 2 ^ (7 * i)) : 0 ≤ n + c % 128 * 2 ^ (7 * i) ∧ n + c % 128 * 2 ^ (7 * i) < 2 ^ (7 * (i + 1)) := by
  have hp : (0 : Int) < 2 ^ (7 * i) := Int.pow_pos (by decide)
  have hge : 0 ≤ c % 128 * 2 ^ (7 * i) := Int.mul_nonneg (by omega) (by omega)
  have hle : c % 128 * 2 ^ (7 * i) ≤ 127 * 2 ^ (7 * i) := Int.mul_le_mul_of_nonneg_right (by omega) (by omega)
  rw [show 7 * (i + 1) = 7 * i + 7 by omega, Int.pow_add, show (2 : Int) ^ 7 = 128 by decide]
  omega
theorem cntGo_num (s : ByteArray) : ∀ (d a i : Nat) (n : Int), i ≤ 5 → d + i = 6 → 0 ≤ n → n < 2 ^ (7 * i) → a ≤ s.size →
    Reads s (numL i n ((bytesOf s).drop a)) (cntGo s d a i n) (fun v b => (v, true, b)) (fun x => x.2.1 = false ∨ x.1 > 2147483647) ∧ (∀ v r, numL i n ((bytesOf s).drop a) = some (v, r) → v ≤ 2147483647) := by
  intro d
  induction d with
  | zero => intro a i n h5 h6; omega
  | succ d ih =>
    intro a i n h5 h6 h0 h1 ha
    refine ⟨?_, fun v r h => (numL_pos _ _ _ _ _ h0 h).2⟩
    unfold cntGo
    by_cases he : a = s.size
    · rw [if_pos (.inl he), drop_end (by omega)]
      exact .inr ⟨by simp [numL], .inl rfl⟩
    · have hlt : a < s.size := by omega
      rw [drop_bt hlt]
      by_cases hi5 : i = 5
      · rw [if_pos (.inr hi5)]
        exact .inr ⟨by simp [numL, hi5], .inl rfl⟩
      · rw [if_neg (by omega)]
        have hb := bt_range s (a : Int)
        have hv := nxt_val n (bt s a) i (by omega) h0 h1 hb.1 hb.2
        have hn := next_bound (c := bt s a) h0 h1
        unfold numL
        rw [if_neg hi5, hv]
        generalize bt s (a : Int) = c at *
        by_cases hc : c < 128
        · rw [if_pos hc, if_pos hc]
          by_cases hz : (c = 0 ∧ 0 < i) ∨ n + c % 128 * 2 ^ (7 * i) > 2147483647
          · rw [if_pos hz]
            refine .inr ⟨rfl, ?_⟩
            rcases hz with hz | hz
            · left
              simp only [Bool.or_eq_false_iff, decide_eq_false_iff_not]; omega
            · exact .inr hz
          · rw [if_neg hz]
            refine .inl ⟨_, a + 1, rfl, by omega, ?_⟩
            have : (decide (c > 0) || decide (i = 0)) = true := by simp only [Bool.or_eq_true, decide_eq_true_eq]; omega
            rw [this]
        · rw [if_neg hc, if_neg hc]
          exact (ih (a + 1) (i + 1) _ (by omega) (by omega) hn.1 hn.2 (by omega)).1
theorem cnt_num (s : ByteArray) (a : Nat) (ha : a ≤ s.size) : Reads s (num ((bytesOf s).drop a)) (cnt true s a) (fun v b => (v, true, b)) (fun x => x.2.1 = false) := by
  obtain ⟨h, hv⟩ := cntGo_num s 6 a 0 0 (by omega) (by omega) (by omega) (by decide) ha
  unfold cnt cntAt
  simp only [if_true, Nat.sub_zero]
  rcases h with ⟨v, b, h1, h2, h3⟩ | ⟨h1, h3⟩
  · refine .inl ⟨v, b, h1, h2, ?_⟩
    rw [h3]
    have := hv v _ h1
    simp [this]
  · refine .inr ⟨h1, ?_⟩
    rcases h3 with h3 | h3
    · simp [h3]
    · have : ¬ (cntGo s 6 a 0 0).1 ≤ 2147483647 := by omega
      simp [this]
theorem strOfNums_take (s : ByteArray) (a n : Nat) : strOfNums (((bytesOf s).drop a).take n) = s.extract a (a + n) := by
  apply bytesOf_inj
  rw [bytesOf_strOfNums (fun x hx => bytesOf_byte s x (List.mem_of_mem_drop (List.mem_of_mem_take hx)))]
  show _ = ((s.extract a (a + n)).data.toList.map _)
  rw [ByteArray.data_extract]
  simp [bytesOf, List.map_take, List.map_drop]
def ReadsT {β : Type} (s : ByteArray) (o : Option (ByteArray × List Int)) (x : β) (good : ByteArray → Nat → β) (bad : β → Prop) : Prop :=
  (∃ v b, o = some (v, (bytesOf s).drop b) ∧ b ≤ s.size ∧ x = good v b) ∨ (o = none ∧ bad x)
theorem rd_txt (s : ByteArray) (a : Nat) (ha : a ≤ s.size) : ReadsT s (txt ((bytesOf s).drop a)) (rdF true s a) (fun v b => (v, true, b)) (fun x => x.2.1 = false) := by
  unfold txt rdF
  rcases cnt_num s a ha with ⟨v, b, h1, h2, h3⟩ | ⟨h1, h3⟩
  · have hp := num_pos h1
    rw [h1, h3]
    simp only [Option.bind_some, List.length_drop, bytesOf_length, true_and]
    by_cases hc : v ≤ (s.size : Int) - (b : Int)
    · rw [if_pos (by omega), if_pos hc]
      exact .inl ⟨_, b + v.toNat, by rw [strOfNums_take, List.drop_drop], by omega, rfl⟩
    · rw [if_neg (by omega), if_neg hc]
      exact .inr ⟨rfl, rfl⟩
  · rw [h1, if_neg (by rw [h3]; simp)]
    exact .inr ⟨rfl, rfl⟩
end Go.Proofs.Ythphoifaingbkaa.Sem
