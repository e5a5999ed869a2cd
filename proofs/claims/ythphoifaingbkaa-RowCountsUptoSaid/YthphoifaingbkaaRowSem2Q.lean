/- What row.Bytes comes to. -/
import Derived.Test.YthphoifaingbkaaRowSemQ
namespace Go.Proofs.Ythphoifaingbkaa.Sem
open Go.RowKit Go.Proofs.YthphoifaingbkaaW.PrintWords Go.Proofs.Ythphoifaingbkaa.LabelB Go.Proofs.Ythphoifaingbkaa.PQ
set_option linter.unusedVariables false

theorem number_l0 (d : Nat) : ∀ (out : List Int) (n : Int) (k : Nat), n < 128 ^ (d + 1) → d < k → out.length + d + 1 < 140737488355328 → row_number.l0 k n out = some (strOfNums (out ++ uv n)) := by
  induction d with
  | zero =>
    intro out n k h hk hl
    obtain ⟨k, rfl⟩ : ∃ m, k = m + 1 := ⟨k - 1, by omega⟩
    unfold row_number.l0 uv
    rw [if_neg (by omega), if_pos (by omega), dif_neg (by omega)]
  | succ d ih =>
    intro out n k h hk hl
    obtain ⟨k, rfl⟩ : ∃ m, k = m + 1 := ⟨k - 1, by omega⟩
    unfold row_number.l0 uv
    by_cases c : n ≥ 128
    · rw [if_pos c, if_pos (by omega), dif_pos c, ih (out ++ [Go.bits .or .u8 (n % 256) 128]) (n / 128) k (by rw [Int.ediv_lt_iff_lt_mul (by omega)]; rw [Int.pow_succ] at h; exact h) (by omega) (by simp; omega)]
      simp
    · rw [if_neg c, if_pos (by omega), dif_neg c]
theorem number_eq (n : Int) (h : n < 128 ^ 5) (k : Nat) (hk : 4 < k) : row_number.f k n = some (strOfNums (uv n)) := by
  have := number_l0 4 [] n k (by simpa using h) hk (by simp)
  simpa [row_number.f] using this
theorem text_eq (a : ByteArray) (h : a.size ≤ 1000000) (k : Nat) (hk : 4 < k) : row_text.f k a = some (strOfNums (tx a)) := by
  have h5 : (128 : Int) ^ 5 = 34359738368 := by decide
  have hu := uv_len 4 a.size (by have : (128 : Int) ^ (4 + 1) = 34359738368 := by decide
                                 omega)
  unfold row_text.f
  rw [number_eq a.size (by omega) k hk, Option.bind_some, if_pos (by rw [strOfNums_size]; omega)]
  congr 1
  apply bytesOf_inj
  have hb : ∀ x ∈ tx a, isByte x := by
    intro x hx
    rcases List.mem_append.1 hx with hx | hx
    · exact uv_byte _ (by omega) x hx
    · exact bytesOf_byte a x hx
  rw [bytesOf_append, bytesOf_strOfNums (uv_byte _ (by omega)), bytesOf_strOfNums hb]; rfl
theorem tx_byte (a : ByteArray) : ∀ x ∈ tx a, isByte x := by
  intro x hx
  rcases List.mem_append.1 hx with hx | hx
  · exact uv_byte _ (by omega) x hx
  · exact bytesOf_byte a x hx
theorem tx_len (a : ByteArray) (h : a.size ≤ 1000000) : (tx a).length ≤ a.size + 5 := by
  have hu := uv_len 4 a.size (by have : (128 : Int) ^ (4 + 1) = 34359738368 := by decide
                                 omega)
  simp only [tx, List.length_append, bytesOf_length]; omega
theorem txs_byte (l : List ByteArray) : ∀ x ∈ txs l, isByte x := by
  intro x hx
  obtain ⟨a, _, h⟩ := List.mem_flatMap.1 hx
  exact tx_byte a x h
theorem strOfNums_append (a b : List Int) : strOfNums a ++ strOfNums b = strOfNums (a ++ b) := by
  have h : (strOfNums a ++ strOfNums b).data.toList = (strOfNums (a ++ b)).data.toList := by
    rw [ByteArray.data_append]; simp [strOfNums]
  generalize strOfNums a ++ strOfNums b = x at h
  generalize strOfNums (a ++ b) = y at h
  cases x; cases y; simp_all
/-- A row's bytes behind its key and the number of its cells. -/
def rowTail (l1 : List ByteArray) (l2 l3 : List Int) (a4 : Int) : List Int := txs l1 ++ (encSet l2 ++ encSet l3) ++ uv (a4 + 1)
def encRow (a0 : ByteArray) (l1 : List ByteArray) (l2 l3 : List Int) (a4 : Int) : List Int := tx a0 ++ uv l1.length ++ rowTail l1 l2 l3 a4
theorem encSet_len {l : List Int} (h : catsP 0 l = true) (hl : l.length ≤ 64) : (encSet l).length ≤ 400 := by
  have h1 := encTail_len l 0 (by omega) h
  have h2 := uv_len 0 l.length (by simp; omega)
  simp only [encSet, List.length_append]; omega
theorem bytes_l0 (key : ByteArray) (l1 : List ByteArray) (l2 l3 : List Int) (a4 : Int) (h8 : l1.length ≤ 8) (hc : l1.all (fun c => decide (c.size ≤ 256)) = true) (hL : okL l2 l3 = true) (h4 : -1 ≤ a4 ∧ a4 < 16) :
    ∀ (d i k : Nat) (out : List Int), l1.length - i = d → i ≤ l1.length → d + 5 < k → out.length ≤ 1000 + 300 * i → row_Bytes.l0 k (strOfNums out) l1 (l1.length : Int) (i : Int) key l1 l2 l3 a4 = some (strOfNums (out ++ rowTail (l1.drop i) l2 l3 a4), 0) := by
  have hk := hL
  simp only [okL, Bool.and_eq_true, decide_eq_true_eq] at hk
  have e2 := encSet_len hk.1.2 hk.1.1.1
  have e3 := encSet_len hk.2 hk.1.1.2
  have h5 : (128 : Int) ^ 5 = 34359738368 := by decide
  have hu := uv_len 0 (a4 + 1) (by simp; omega)
  intro d
  induction d with
  | zero =>
    intro i k out h hi hk ho
    obtain ⟨k, rfl⟩ : ∃ m, k = m + 1 := ⟨k - 1, by omega⟩
    unfold row_Bytes.l0
    rw [if_neg (by omega), show label_Bytes.f l2 l3 = some (strOfNums (encSet l2 ++ encSet l3), 0) from by show bytesF l2 l3 = _; simp [bytesF, hL], Option.bind_some]
    simp only [strOfNums_append, strOfNums_size]
    rw [if_pos (by simp only [List.length_append]; omega), w64 (by omega), number_eq (a4 + 1) (by omega) k (by omega), Option.bind_some]
    simp only [strOfNums_append, strOfNums_size]
    rw [if_pos (by simp only [List.length_append]; omega), List.drop_of_length_le (by omega)]
    simp [rowTail, txs]
  | succ d ih =>
    intro i k out h hi hk ho
    obtain ⟨k, rfl⟩ : ∃ m, k = m + 1 := ⟨k - 1, by omega⟩
    have ha : i < l1.length := by omega
    have hs : l1[i].size ≤ 256 := by have := List.all_eq_true.1 hc l1[i] (List.getElem_mem ha); simpa using this
    have ht := tx_len l1[i] (by omega)
    unfold row_Bytes.l0
    rw [if_pos (by omega), if_pos (by omega), if_pos (by omega), rdOf_nat ha, text_eq _ (by omega) k (by omega), Option.bind_some]
    simp only [strOfNums_append, strOfNums_size]
    rw [if_pos (by omega), w64s ha (by omega), ih (i + 1) k (out ++ tx l1[i]) (by omega) (by omega) (by omega) (by simp only [List.length_append]; omega), List.drop_eq_getElem_cons ha]
    generalize l1[i] = x, l1.drop (i + 1) = p
    simp [rowTail, txs]
theorem rbytes_eq (a0 : ByteArray) (l1 : List ByteArray) (l2 l3 : List Int) (a4 : Int) (k : Nat) (hk : 64 < k) : row_Bytes.f k a0 l1 l2 l3 a4 = some (if okRow a0 l1 l2 l3 a4 = true then (strOfNums (encRow a0 l1 l2 l3 a4), 0) else (⟨#[]⟩, 110)) := by
  unfold row_Bytes.f
  rw [rcheck_eq a0 l1 l2 l3 a4 k hk, Option.bind_some]
  cases ho : okRow a0 l1 l2 l3 a4 with
  | false => simp
  | true =>
    have hk2 := ho
    simp only [okRow, Bool.and_eq_true, decide_eq_true_eq] at hk2
    obtain ⟨⟨⟨⟨⟨⟨h1, h2⟩, h3⟩, h4⟩, h5⟩, h6⟩, h7⟩ := hk2
    have h5' : (128 : Int) ^ 5 = 34359738368 := by decide
    have ht := tx_len a0 (by omega)
    have hu := uv_len 0 l1.length (by simp; omega)
    rw [if_pos rfl, if_pos rfl, text_eq a0 (by omega) k (by omega), Option.bind_some, number_eq l1.length (by omega) k (by omega), Option.bind_some]
    simp only [strOfNums_append, strOfNums_size]
    rw [if_pos (by omega)]
    have := bytes_l0 a0 l1 l2 l3 a4 h3 h4 h5 ⟨h6, h7⟩ l1.length 0 k (tx a0 ++ uv l1.length) (by omega) (by omega) (by omega) (by simp only [List.length_append]; omega)
    simp only [List.drop_zero] at this
    exact this
theorem encRow_byte {a0 : ByteArray} {l1 : List ByteArray} {l2 l3 : List Int} {a4 : Int} (h : okRow a0 l1 l2 l3 a4 = true) : ∀ x ∈ encRow a0 l1 l2 l3 a4, isByte x := by
  simp only [okRow, okL, Bool.and_eq_true, decide_eq_true_eq] at h
  obtain ⟨⟨⟨⟨⟨⟨h1, h2⟩, h3⟩, h4⟩, h5⟩, h6⟩, h7⟩ := h
  intro x hx
  simp only [encRow, rowTail, List.mem_append] at hx
  rcases hx with (hx | hx) | (hx | hx | hx) | hx
  · exact tx_byte _ x hx
  · exact uv_byte _ (by omega) x hx
  · exact txs_byte _ x hx
  · exact encSet_byte h5.1.2 x hx
  · exact encSet_byte h5.2 x hx
  · exact uv_byte _ (by omega) x hx
theorem encRow_inj {a0 b0 : ByteArray} {l1 m1 : List ByteArray} {l2 l3 m2 m3 : List Int} {a4 b4 : Int} (h : okRow a0 l1 l2 l3 a4 = true) (h' : okRow b0 m1 m2 m3 b4 = true) {s t : List Int} (he : encRow a0 l1 l2 l3 a4 ++ s = encRow b0 m1 m2 m3 b4 ++ t) : (a0 = b0 ∧ l1 = m1 ∧ l2 = m2 ∧ l3 = m3 ∧ a4 = b4) ∧ s = t := by
  simp only [okRow, okL, Bool.and_eq_true, decide_eq_true_eq] at h h'
  obtain ⟨⟨⟨⟨⟨⟨h1, h2⟩, h3⟩, h4⟩, h5⟩, h6⟩, h7⟩ := h
  obtain ⟨⟨⟨⟨⟨⟨g1, g2⟩, g3⟩, g4⟩, g5⟩, g6⟩, g7⟩ := h'
  simp only [encRow, rowTail, List.append_assoc] at he
  obtain ⟨q0, e0⟩ := tx_inj he
  obtain ⟨hl, e1⟩ := uv_inj (n := l1.length) (m := m1.length) (by omega) (by omega) e0
  obtain ⟨q1, e2⟩ := txs_inj (by omega) e1
  obtain ⟨q2, e3⟩ := encSet_inj h5.1.2 g5.1.2 e2
  obtain ⟨q3, e4⟩ := encSet_inj h5.2 g5.2 e3
  obtain ⟨h8, q4⟩ := uv_inj (n := a4 + 1) (m := b4 + 1) (by omega) (by omega) e4
  exact ⟨⟨q0, q1, q2, q3, by omega⟩, q4⟩
theorem join_flat (l : List (List UInt8)) : Lib.join l [] = l.flatten := by
  cases l with
  | nil => rfl
  | cons a r =>
    rw [Lib.join_cons]
    simp only [Lib.joinTail, List.nil_append, List.map_id', List.flatten_cons]
theorem flat_len (l : List ByteArray) : (l.map (·.data.toList)).flatten.length = (l.map (·.size)).sum := by
  induction l with
  | nil => rfl
  | cons a r ih =>
    rw [List.map_cons, List.flatten_cons, List.length_append, ih, List.map_cons, List.sum_cons]
    rfl
theorem join_empty (l : List ByteArray) : (Lib.join (l.map (·.data.toList)) (⟨#[]⟩ : ByteArray).data.toList).length = (l.map (·.size)).sum := by
  rw [show (⟨#[]⟩ : ByteArray).data.toList = [] from rfl, join_flat, flat_len]
theorem sum_le {l : List ByteArray} (hc : l.all (fun c => decide (c.size ≤ 256)) = true) : (l.map (·.size)).sum ≤ 256 * l.length := by
  induction l with
  | nil => simp
  | cons a r ih =>
    simp only [List.all_cons, Bool.and_eq_true, decide_eq_true_eq] at hc
    have := ih hc.2
    simp only [List.map_cons, List.sum_cons, List.length_cons]; omega
theorem rsize_eq (a0 : ByteArray) (l1 : List ByteArray) (l2 l3 : List Int) (a4 : Int) (k : Nat) (hk : 64 < k) : row_Size.f k a0 l1 l2 l3 a4 = some (if okRow a0 l1 l2 l3 a4 = true then (((a0.size + (l1.map (·.size)).sum + 16 : Nat) : Int), 0) else (0, 110)) := by
  unfold row_Size.f
  rw [rcheck_eq a0 l1 l2 l3 a4 k hk, Option.bind_some]
  cases ho : okRow a0 l1 l2 l3 a4 with
  | false => simp
  | true =>
    simp only [okRow, Bool.and_eq_true, decide_eq_true_eq] at ho
    obtain ⟨⟨⟨⟨⟨⟨h1, h2⟩, h3⟩, h4⟩, h5⟩, h6⟩, h7⟩ := ho
    have hs := sum_le h4
    have hj := join_empty l1
    rw [if_pos rfl, if_pos rfl, show strings_Join.f l1 (⟨#[]⟩ : ByteArray) = some ⟨(Lib.join (l1.map (·.data.toList)) (⟨#[]⟩ : ByteArray).data.toList).toArray⟩ from by
      show Hand.joinF l1 _ = _
      unfold Hand.joinF
      rw [if_pos (by rw [hj]; omega), if_pos (by omega)], Option.bind_some]
    rw [show (⟨(Lib.join (l1.map (·.data.toList)) (⟨#[]⟩ : ByteArray).data.toList).toArray⟩ : ByteArray).size = (l1.map (·.size)).sum from by rw [← hj]; simp [ByteArray.size]]
    simp only [if_true, Option.some.injEq, Prod.mk.injEq, and_true]
    rw [w64 (x := (a0.size : Int) + _) (by omega), w64 (by omega)]
    omega
theorem awake_eq (k : Nat) (hk : 64 < k) : cloisterlaw11_awake.f k = some true := by
  unfold cloisterlaw11_awake.f
  simp only [Option.bind_some]
  rw [rbytes_eq _ _ _ _ _ k hk, rsize_eq _ _ _ _ _ k hk]
  have ho : okRow (⟨#[107]⟩ : ByteArray) [⟨#[97]⟩] [1] [] 0 = true := by decide
  have he : encRow (⟨#[107]⟩ : ByteArray) [⟨#[97]⟩] [1] [] 0 = [1, 107, 1, 1, 97, 1, 1, 0, 1] := by
    simp [encRow, rowTail, tx, txs, encSet, encTail, uv, bytesOf, ByteArray.size]
  rw [ho, he]
  simp only [if_true, Option.bind_some]
  rw [if_pos (by rw [ByteArray.toList_eq]; decide), if_pos (by decide)]
  rfl
end Go.Proofs.Ythphoifaingbkaa.Sem
