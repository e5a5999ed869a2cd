/- The reference's row.Of, Bytes and Size. -/
import Derived.Test.YthphoifaingbkaaRowRd4
namespace Go.Proofs.Ythphoifaingbkaa.Sem
open Go.RowKit Go.Proofs.YthphoifaingbkaaW Go.Proofs.YthphoifaingbkaaW.PrintWords Go.Proofs.YthphoifaingbkaaW.PrintMore Go.Proofs.Ythphoifaingbkaa.LabelB Go.Proofs.Ythphoifaingbkaa.RowOf Go.Proofs.Ythphoifaingbkaa.PB
set_option linter.unusedVariables false
abbrev noRow : ByteArray × List ByteArray × List Int × List Int × Int × Int × Int := (⟨#[]⟩, [], [], [], 0, 0, 110)
theorem rof_l0 (s : ByteArray) (hs : s.size ≤ 140737488351232) (key : ByteArray) (n : Nat) (hn : n ≤ 8) (w0 : Int) : ∀ (d i a k : Nat) (acc : List ByteArray), d + i = n → d + 200 < k → acc.length = i → a ≤ s.size →
    (∃ cl S I who b, ((cellsP d acc ((bytesOf s).drop a)).bind fun c => (labP c.2).bind fun l => (num l.2.2).bind fun w => if okRow key c.1 l.1 l.2.1 (w.1 - 1) = true then some (key, c.1, l.1, l.2.1, w.1 - 1, w.2) else none) = some (key, cl, S, I, who, (bytesOf s).drop b) ∧ b ≤ s.size ∧ cloisterref11_Of.l0 k s (n : Int) (a : Int) (i : Int) ⟨#[]⟩ 0 key acc w0 = some (key, cl, S, I, who, (b : Int), 0)) ∨
    (((cellsP d acc ((bytesOf s).drop a)).bind fun c => (labP c.2).bind fun l => (num l.2.2).bind fun w => if okRow key c.1 l.1 l.2.1 (w.1 - 1) = true then some (key, c.1, l.1, l.2.1, w.1 - 1, w.2) else none) = none ∧ cloisterref11_Of.l0 k s (n : Int) (a : Int) (i : Int) ⟨#[]⟩ 0 key acc w0 = some noRow) := by
  intro d
  induction d with
  | zero =>
    intro i a k acc h1 hk hl ha
    obtain ⟨k, rfl⟩ : ∃ m, k = m + 1 := ⟨k - 1, by omega⟩
    unfold cloisterref11_Of.l0
    rw [if_neg (show ¬ (i : Int) < (n : Int) by omega), if_pos (show (0 : Int) ≤ (a : Int) by omega), if_pos (show (a : Int) ≤ (s.size : Int) by omega), Int.toNat_natCast]
    simp only [cellsP, Option.bind_some]
    have hl2 := rlab_eq (s.extract a s.size) (by rw [tail_size]; omega) k (by omega)
    rw [bytes_tail, tail_size] at hl2
    rcases hl2 with ⟨S, I, u, e4, h4, f4⟩ | ⟨e4, f4⟩
    · rw [e4, f4, Option.bind_some, Option.bind_some]
      simp only [List.drop_drop, if_true]
      rw [w64 (x := (a : Int) + (u : Int)) (by omega), show (a : Int) + (u : Int) = ((a + u : Nat) : Int) by push_cast; rfl]
      rcases rnum_eq s hs (a + u) (by omega) k (by omega) with ⟨w, a5, e5, h5, f5⟩ | ⟨e5, f5⟩
      · have hp := num_pos e5
        have h50 : ¬ (a5 : Int) < 0 := by omega
        rw [e5, f5, Option.bind_some, Option.bind_some]
        simp only [if_neg h50]
        rw [w64 (x := w - 1) (by omega), may_eq key acc S I (w - 1) (by omega) k (by omega) (by omega), Option.bind_some]
        by_cases hok : okRow key acc S I (w - 1) = true
        · rw [if_pos hok, if_pos hok]
          exact .inl ⟨_, _, _, _, a5, rfl, h5, rfl⟩
        · rw [if_neg hok, if_neg hok]
          exact .inr ⟨rfl, rfl⟩
      · rw [e5, f5, Option.bind_none, Option.bind_some]
        exact .inr ⟨rfl, rfl⟩
    · rw [e4, f4, Option.bind_none, Option.bind_some]
      exact .inr ⟨rfl, rfl⟩
  | succ d ih =>
    intro i a k acc h1 hk hl ha
    obtain ⟨k, rfl⟩ : ∃ m, k = m + 1 := ⟨k - 1, by omega⟩
    unfold cloisterref11_Of.l0
    rw [if_pos (show (i : Int) < (n : Int) by omega)]
    simp only [cellsP]
    rcases rtext_eq s hs a ha k (by omega) with ⟨v, b, e1, hb, e2⟩ | ⟨e1, e2⟩
    · have hb0 : ¬ (b : Int) < 0 := by omega
      rw [e1, e2, Option.bind_some, Option.bind_some]
      simp only [if_neg hb0]
      rw [if_pos (show acc.length < 8796093022208 by omega), w64 (x := (i : Int) + 1) (by omega)]
      exact ih (i + 1) b k _ (by omega) (by omega) (by simp; omega) hb
    · rw [e1, e2, Option.bind_none, Option.bind_some]
      exact .inr ⟨rfl, rfl⟩
theorem rof_eq (s : ByteArray) (hs : s.size ≤ 140737488351232) (k : Nat) (hk : 300 < k) :
    (∃ key cl S I who b, rowP (bytesOf s) = some (key, cl, S, I, who, (bytesOf s).drop b) ∧ b ≤ s.size ∧ cloisterref11_Of.f k s = some (key, cl, S, I, who, (b : Int), 0)) ∨
    (rowP (bytesOf s) = none ∧ cloisterref11_Of.f k s = some noRow) := by
  obtain ⟨k, rfl⟩ : ∃ m, k = m + 1 := ⟨k - 1, by omega⟩
  have h0 := rtext_eq s hs 0 (by omega) (k + 1) (by omega)
  rw [List.drop_zero] at h0
  unfold rowP cloisterref11_Of.f
  rcases h0 with ⟨key, a1, e1, h1, f1⟩ | ⟨e1, f1⟩
  · have h10 : ¬ (a1 : Int) < 0 := by omega
    rw [e1, Option.bind_some, show cloisterref11_textOf.f (k + 1) s 0 = _ from f1, Option.bind_some]
    simp only [if_neg h10]
    rcases rnum_eq s hs a1 h1 (k + 1) (by omega) with ⟨n, a2, e2, h2, f2⟩ | ⟨e2, f2⟩
    · have hp := num_pos e2
      have h20 : ¬ (a2 : Int) < 0 := by omega
      obtain ⟨n, rfl⟩ := Int.eq_ofNat_of_zero_le hp.1
      rw [e2, f2, Option.bind_some, Option.bind_some]
      simp only [if_neg h20, Int.toNat_natCast]
      by_cases h8 : (n : Int) > 8
      · rw [if_pos h8, show decide ((n : Int) > 8) = true from decide_eq_true h8]
        exact .inr ⟨rfl, rfl⟩
      · rw [if_neg h8, show decide ((n : Int) > 8) = false from decide_eq_false h8]
        rcases rof_l0 s hs key n (by omega) 0 n 0 a2 k [] (by omega) (by omega) rfl h2 with ⟨cl, S, I, who, b, g1, g2, g3⟩ | ⟨g1, g2⟩
        · exact .inl ⟨key, cl, S, I, who, b, g1, g2, g3⟩
        · exact .inr ⟨g1, g2⟩
    · rw [e2, f2, Option.bind_none, Option.bind_some]
      exact .inr ⟨rfl, rfl⟩
  · rw [e1, Option.bind_none, show cloisterref11_textOf.f (k + 1) s 0 = _ from f1]
    exact .inr ⟨rfl, rfl⟩
/-! ### the reference's bytes -/
theorem p128 : (128 : Int) ^ (4 + 1) = 34359738368 := by decide
theorem rcount_l0 (d : Nat) : ∀ (n : Int) (k : Nat) (out : List Int), 0 ≤ n → n < 128 ^ (d + 1) → d < k → n ≤ 9223372036854775807 → out.length + d + 1 < 140737488355328 → cloisterref02_Count.l0 k out n = some (out ++ uv n) := by
  induction d with
  | zero =>
    intro n k out h0 h1 hk hm hl
    obtain ⟨k, rfl⟩ : ∃ m, k = m + 1 := ⟨k - 1, by omega⟩
    unfold cloisterref02_Count.l0
    rw [if_neg (by omega), if_pos (by omega), uv_small h0 (by omega), show n % 256 = n by omega]
  | succ d ih =>
    intro n k out h0 h1 hk hm hl
    obtain ⟨k, rfl⟩ : ∃ m, k = m + 1 := ⟨k - 1, by omega⟩
    unfold cloisterref02_Count.l0
    by_cases hn : n ≥ 128
    · rw [if_pos hn, if_pos (by omega), tmod128 h0, w64 (x := n % 128 + 128) (by omega), show (n % 128 + 128) % 256 = n % 128 + 128 by omega, Int.tdiv_eq_ediv_of_nonneg h0, w64 (x := n / 128) (by omega)]
      rw [ih (n / 128) k _ (by omega) (by rw [Int.pow_succ] at h1; omega) (by omega) (by omega) (by simp; omega), uv_big hn]
      simp
    · rw [if_neg hn, if_pos (by omega), uv_small h0 (by omega), show n % 256 = n by omega]
theorem rcount_eq {n : Int} (h0 : 0 ≤ n) (h1 : n ≤ 2147483647) (k : Nat) (hk : 5 < k) (out : List Int) (hl : out.length < 100000) : cloisterref02_Count.f k out n = some (out ++ uv n) := by
  have h5 : (128 : Int) ^ (4 + 1) = 34359738368 := by decide
  exact rcount_l0 4 n k out h0 (by omega) (by omega) (by omega) (by omega)
theorem rtxt_eq (a : ByteArray) (ha : a.size ≤ 1000) (k : Nat) (hk : 5 < k) (out : List Int) (hl : out.length < 90000) : cloisterref11_text.f k out a = some (out ++ tx a) := by
  unfold cloisterref11_text.f
  rw [rcount_eq (by omega) (by omega) k hk out (by omega), Option.bind_some]
  have := uv_len 4 (a.size : Int) (by have h5 := p128; omega)
  rw [if_pos (by rw [List.length_append]; omega)]
  simp [tx]
theorem rsetb_l0 (l : List Int) (h64 : l.length ≤ 64) : ∀ (d i k : Nat) (last : Int) (out : List Int), l.length - i = d → i ≤ l.length → d + 10 < k → 0 ≤ last → catsP last (l.drop i) = true → out.length + 10 * d < 90000 →
    cloisterref02_SetBytes.l0 k out l last (i : Int) = some (out ++ encTail last (l.drop i)) := by
  intro d
  induction d with
  | zero =>
    intro i k last out h hi hk h0 hc ho
    obtain ⟨k, rfl⟩ : ∃ m, k = m + 1 := ⟨k - 1, by omega⟩
    unfold cloisterref02_SetBytes.l0
    rw [if_neg (by omega), List.drop_of_length_le (by omega)]
    simp [encTail]
  | succ d ih =>
    intro i k last out h hi hk h0 hc ho
    obtain ⟨k, rfl⟩ : ∃ m, k = m + 1 := ⟨k - 1, by omega⟩
    have ha : i < l.length := by omega
    unfold cloisterref02_SetBytes.l0
    rw [if_pos (by omega), if_pos (by omega), rd_nat ha]
    rw [List.drop_eq_getElem_cons ha] at hc ⊢
    have hb := catsP_bound hc l[i] (List.mem_cons_self ..)
    have hr : catsP l[i] (l.drop (i + 1)) = true := by
      unfold catsP at hc
      rw [if_neg (by omega), if_neg (by omega)] at hc; exact hc
    rw [w64 (x := l[i] - last) (by omega), rcount_eq (by omega) (by omega) k (by omega) out (by omega), Option.bind_some, w64s ha (by omega)]
    have hu := uv_len 4 (l[i] - last) (by have h5 := p128; omega)
    rw [ih (i + 1) k l[i] _ (by omega) (by omega) (by omega) (by omega) hr (by rw [List.length_append]; omega)]
    simp [encTail]
theorem rsetb_eq (l : List Int) (h64 : l.length ≤ 64) (hc : catsP 0 l = true) (k : Nat) (hk : 100 < k) (out : List Int) (ho : out.length < 50000) : cloisterref02_SetBytes.f k out l = some (out ++ encSet l) := by
  unfold cloisterref02_SetBytes.f
  rw [rcount_eq (by omega) (by omega) k (by omega) out (by omega), Option.bind_some]
  have hu := uv_len 4 (l.length : Int) (by have h5 := p128; omega)
  rw [show cloisterref02_SetBytes.l0 k (out ++ uv l.length) l 0 0 = _ from rsetb_l0 l h64 l.length 0 k 0 _ (by omega) (by omega) (by omega) (by omega) (by simpa using hc) (by rw [List.length_append]; omega)]
  simp [encSet]
theorem rrbytes_l0 (key : ByteArray) (l1 : List ByteArray) (l2 l3 : List Int) (a4 : Int) (h8 : l1.length ≤ 8) (hc : l1.all (fun c => decide (c.size ≤ 256)) = true) (hL : okL l2 l3 = true) (h4 : -1 ≤ a4 ∧ a4 < 16) :
    ∀ (d i k : Nat) (out : List Int), l1.length - i = d → i ≤ l1.length → d + 200 < k → out.length ≤ 1000 + 300 * i → cloisterref11_Bytes.l0 k out (i : Int) key l1 l2 l3 a4 = some (strOfNums (out ++ rowTail (l1.drop i) l2 l3 a4), 0) := by
  have hk := hL
  simp only [okL, Bool.and_eq_true, decide_eq_true_eq] at hk
  have e2 := encSet_len hk.1.2 hk.1.1.1
  have e3 := encSet_len hk.2 hk.1.1.2
  intro d
  induction d with
  | zero =>
    intro i k out h hi hkk ho
    obtain ⟨k, rfl⟩ : ∃ m, k = m + 1 := ⟨k - 1, by omega⟩
    unfold cloisterref11_Bytes.l0
    rw [if_neg (by omega), rsetb_eq l2 hk.1.1.1 hk.1.2 k (by omega) out (by omega), Option.bind_some, rsetb_eq l3 hk.1.1.2 hk.2 k (by omega) _ (by rw [List.length_append]; omega), Option.bind_some, w64 (x := a4 + 1) (by omega),
      rcount_eq (by omega) (by omega) k (by omega) _ (by simp only [List.length_append]; omega), Option.bind_some, List.drop_of_length_le (by omega)]
    simp [rowTail, txs]
  | succ d ih =>
    intro i k out h hi hkk ho
    obtain ⟨k, rfl⟩ : ∃ m, k = m + 1 := ⟨k - 1, by omega⟩
    have ha : i < l1.length := by omega
    have hs : l1[i].size ≤ 256 := by have := List.all_eq_true.1 hc l1[i] (List.getElem_mem ha); simpa using this
    have ht := tx_len l1[i] (by omega)
    unfold cloisterref11_Bytes.l0
    rw [if_pos (by omega), if_pos (by omega), rdOf_nat ha, rtxt_eq _ (by omega) k (by omega) out (by omega), Option.bind_some, w64s ha (by omega), ih (i + 1) k (out ++ tx l1[i]) (by omega) (by omega) (by omega) (by simp only [List.length_append]; omega), List.drop_eq_getElem_cons ha]
    generalize l1[i] = x, l1.drop (i + 1) = p
    simp [rowTail, txs]
theorem rrbytes_eq (a0 : ByteArray) (l1 : List ByteArray) (l2 l3 : List Int) (a4 : Int) (hm : l1.length ≤ 9223372036854775807) (k : Nat) (hk : 300 < k) (hk1 : l1.length < k) : cloisterref11_Bytes.f k a0 l1 l2 l3 a4 = some (if okRow a0 l1 l2 l3 a4 = true then (strOfNums (encRow a0 l1 l2 l3 a4), 0) else (⟨#[]⟩, 110)) := by
  unfold cloisterref11_Bytes.f
  rw [may_eq a0 l1 l2 l3 a4 hm k (by omega) hk1, Option.bind_some]
  cases ho : okRow a0 l1 l2 l3 a4 with
  | false => simp
  | true =>
    have hk2 := ho
    simp only [okRow, Bool.and_eq_true, decide_eq_true_eq] at hk2
    obtain ⟨⟨⟨⟨⟨⟨h1, h2⟩, h3⟩, h4⟩, h5⟩, h6⟩, h7⟩ := hk2
    have ht := tx_len a0 (by omega)
    have hu := uv_len 0 l1.length (by simp; omega)
    rw [if_pos rfl, if_pos rfl, rtxt_eq a0 (by omega) k (by omega) [] (by simp), Option.bind_some, rcount_eq (by omega) (by omega) k (by omega) _ (by simp; omega), Option.bind_some]
    rw [show cloisterref11_Bytes.l0 k ([] ++ tx a0 ++ uv (l1.length : Int)) 0 a0 l1 l2 l3 a4 = _ from rrbytes_l0 a0 l1 l2 l3 a4 h3 h4 h5 ⟨h6, h7⟩ l1.length 0 k _ (by omega) (by omega) (by omega) (by simp; omega)]
    simp [encRow]
theorem counted_l0 (key : ByteArray) (l1 : List ByteArray) (l2 l3 : List Int) (a4 : Int) (h8 : l1.length ≤ 8) (hc : ∀ c ∈ l1, c.size ≤ 256) : ∀ (d i k : Nat) (n : Nat), l1.length - i = d → i ≤ l1.length → d < k → n ≤ 1000 + 300 * i → cloisterref11_Counted.l0 k (n : Int) (i : Int) key l1 l2 l3 a4 = some ((n + ((l1.drop i).map (·.size)).sum : Nat) : Int) := by
  intro d
  induction d with
  | zero =>
    intro i k n h hi hk hn
    obtain ⟨k, rfl⟩ : ∃ m, k = m + 1 := ⟨k - 1, by omega⟩
    unfold cloisterref11_Counted.l0
    rw [if_neg (by omega), List.drop_of_length_le (by omega)]
    simp
  | succ d ih =>
    intro i k n h hi hk hn
    obtain ⟨k, rfl⟩ : ∃ m, k = m + 1 := ⟨k - 1, by omega⟩
    have ha : i < l1.length := by omega
    have hs := hc l1[i] (List.getElem_mem ha)
    unfold cloisterref11_Counted.l0
    rw [if_pos (by omega), if_pos (by omega), rdOf_nat ha, w64s ha (by omega), w64 (x := (n : Int) + (l1[i].size : Int)) (by omega), show (n : Int) + (l1[i].size : Int) = ((n + l1[i].size : Nat) : Int) by push_cast; rfl, ih (i + 1) k _ (by omega) (by omega) (by omega) (by omega), List.drop_eq_getElem_cons ha]
    simp only [List.map_cons, List.sum_cons, Option.some.injEq]
    omega
theorem rrsize_eq (a0 : ByteArray) (l1 : List ByteArray) (l2 l3 : List Int) (a4 : Int) (hm : l1.length ≤ 9223372036854775807) (k : Nat) (hk : 300 < k) (hk1 : l1.length < k) : cloisterref11_Size.f k a0 l1 l2 l3 a4 = some (if okRow a0 l1 l2 l3 a4 = true then (((a0.size + (l1.map (·.size)).sum + 16 : Nat) : Int), 0) else (0, 110)) := by
  unfold cloisterref11_Size.f
  rw [may_eq a0 l1 l2 l3 a4 hm k (by omega) hk1, Option.bind_some]
  cases ho : okRow a0 l1 l2 l3 a4 with
  | false => simp
  | true =>
    simp only [okRow, Bool.and_eq_true, decide_eq_true_eq, List.all_eq_true] at ho
    obtain ⟨⟨⟨⟨⟨⟨h1, h2⟩, h3⟩, h4⟩, h5⟩, h6⟩, h7⟩ := ho
    unfold cloisterref11_Counted.f
    rw [if_pos rfl, if_pos rfl, w64 (x := (a0.size : Int) + 16) (by omega), show (a0.size : Int) + 16 = ((a0.size + 16 : Nat) : Int) by push_cast; rfl]
    rw [show cloisterref11_Counted.l0 k ((a0.size + 16 : Nat) : Int) 0 a0 l1 l2 l3 a4 = _ from counted_l0 a0 l1 l2 l3 a4 h3 h4 l1.length 0 k _ (by omega) (by omega) (by omega) (by omega), Option.bind_some]
    simp only [List.drop_zero, Option.some.injEq, Prod.mk.injEq, and_true]
    omega
theorem rrcheck_eq (a0 : ByteArray) (l1 : List ByteArray) (l2 l3 : List Int) (a4 : Int) (hm : l1.length ≤ 9223372036854775807) (k : Nat) (hk : 300 < k) (hk1 : l1.length < k) : cloisterref11_Check.f k a0 l1 l2 l3 a4 = some (if okRow a0 l1 l2 l3 a4 = true then 0 else 110) := by
  unfold cloisterref11_Check.f
  rw [may_eq a0 l1 l2 l3 a4 hm k (by omega) hk1, Option.bind_some]
  cases okRow a0 l1 l2 l3 a4 <;> simp
end Go.Proofs.Ythphoifaingbkaa.Sem
