/- What the reference's readers come to: the lists' readers. -/
import Derived.Test.YthphoifaingbkaaRowRd3
namespace Go.Proofs.Ythphoifaingbkaa.Sem
open Go.RowKit Go.Proofs.YthphoifaingbkaaW Go.Proofs.YthphoifaingbkaaW.PrintWords Go.Proofs.YthphoifaingbkaaW.PrintMore Go.Proofs.Ythphoifaingbkaa.LabelB Go.Proofs.Ythphoifaingbkaa.RowOf Go.Proofs.Ythphoifaingbkaa.PB
set_option linter.unusedVariables false

theorem tmod128 {c : Int} (h : 0 ≤ c) : Int.tmod c 128 = c % 128 := Int.tmod_eq_emod_of_nonneg h
theorem rnum_l0 (s : ByteArray) (hs : s.size ≤ 140737488351232) (a : Nat) : ∀ (d j k : Nat) (n : Int), j ≤ 5 → d + j = 6 → 2 * d < k → 0 ≤ n → n < 2 ^ (7 * j) → a + j ≤ s.size →
    Reads s (numL j n ((bytesOf s).drop (a + j))) (cloisterref02_Number.l0 k s (a : Int) n (2 ^ (7 * j)) ((a + j : Nat) : Int)) (fun v b => some (v, (b : Int))) (fun x => x = some (0, -1)) := by
  intro d
  induction d with
  | zero => intro j k n h5 h6; omega
  | succ d ih =>
    intro j k n h5 h6 hk h0 h1 hi
    obtain ⟨k, rfl⟩ : ∃ m, k = m + 2 := ⟨k - 2, by omega⟩
    unfold cloisterref02_Number.l0
    by_cases he : a + j = s.size
    · rw [if_neg (by omega), drop_end (by omega)]
      exact .inr ⟨by simp [numL], by unfold cloisterref02_Number.j1; rw [if_neg (by decide)]⟩
    · have hlt : a + j < s.size := by omega
      rw [if_pos (by omega), drop_bt hlt, w64 (x := (a : Int) + 5) (by omega)]
      unfold cloisterref02_Number.j1
      by_cases hi5 : j = 5
      · rw [if_neg (by simp; omega)]
        exact .inr ⟨by simp [numL, hi5], rfl⟩
      · have hb := bt_range s ((a + j : Nat) : Int)
        have hn := next_bound (c := bt s ((a + j : Nat) : Int)) h0 h1
        have hp := pow_i (show j + 1 ≤ 5 by omega)
        have hp0 : (0 : Int) < 2 ^ (7 * j) := Int.pow_pos (by decide)
        have hps : (2 : Int) ^ (7 * (j + 1)) = 2 ^ (7 * j) * 128 := by rw [show 7 * (j + 1) = 7 * j + 7 by omega, Int.pow_add]; rfl
        rw [if_pos (by simp; omega), if_pos (by omega), if_pos (by omega)]
        simp only [w64 (x := bt s ((a + j : Nat) : Int)) (by omega), tmod128 hb.1]
        generalize bt s ((a + j : Nat) : Int) = c at *
        have hge : 0 ≤ c % 128 * 2 ^ (7 * j) := Int.mul_nonneg (by omega) (by omega)
        rw [w64 (x := c % 128 * 2 ^ (7 * j)) (by omega), w64 (x := n + c % 128 * 2 ^ (7 * j)) (by omega), w64 (x := (2 : Int) ^ (7 * j) * 128) (by omega), w64 (x := ((a + j : Nat) : Int) + 1) (by omega)]
        unfold numL
        rw [if_neg hi5]
        by_cases hc : c < 128
        · rw [if_pos hc, if_pos hc]
          by_cases hz : c = 0
          · rw [if_pos hz]
            by_cases hp : 0 < j
            · rw [if_pos (show ((a + j : Nat) : Int) > (a : Int) by omega), if_pos (show (c = 0 ∧ 0 < j) ∨ n + c % 128 * 2 ^ (7 * j) > 2147483647 from .inl ⟨hz, hp⟩)]; exact .inr ⟨rfl, rfl⟩
            · rw [if_neg (show ¬ ((a + j : Nat) : Int) > (a : Int) by omega)]
              by_cases hg : n + c % 128 * 2 ^ (7 * j) > 2147483647
              · rw [if_pos hg, if_pos (show (c = 0 ∧ 0 < j) ∨ n + c % 128 * 2 ^ (7 * j) > 2147483647 from .inr hg)]; exact .inr ⟨rfl, rfl⟩
              · rw [if_neg hg, if_neg (show ¬ ((c = 0 ∧ 0 < j) ∨ n + c % 128 * 2 ^ (7 * j) > 2147483647) from fun h => h.elim (fun h => hp h.2) hg)]
                exact .inl ⟨_, a + j + 1, rfl, by omega, by push_cast; rfl⟩
          · rw [if_neg hz]
            by_cases hg : n + c % 128 * 2 ^ (7 * j) > 2147483647
            · rw [if_pos hg, if_pos (show (c = 0 ∧ 0 < j) ∨ n + c % 128 * 2 ^ (7 * j) > 2147483647 from .inr hg)]; exact .inr ⟨rfl, rfl⟩
            · rw [if_neg hg, if_neg (show ¬ ((c = 0 ∧ 0 < j) ∨ n + c % 128 * 2 ^ (7 * j) > 2147483647) from fun h => h.elim (fun h => hz h.1) hg)]
              exact .inl ⟨_, a + j + 1, rfl, by omega, by push_cast; rfl⟩
        · rw [if_neg hc, if_neg hc]
          have := ih (j + 1) k _ (by omega) (by omega) (by omega) hn.1 hn.2 (by omega)
          rw [hps] at this
          rw [show ((a + j : Nat) : Int) + 1 = ((a + (j + 1) : Nat) : Int) by push_cast; omega, show a + j + 1 = a + (j + 1) by omega]
          exact this
theorem rnum_eq (s : ByteArray) (hs : s.size ≤ 140737488351232) (a : Nat) (ha : a ≤ s.size) (k : Nat) (hk : 12 < k) :
    Reads s (num ((bytesOf s).drop a)) (cloisterref02_Number.f k s (a : Int)) (fun v b => some (v, (b : Int))) (fun x => x = some (0, -1)) := by
  have := rnum_l0 s hs a 6 0 k 0 (by omega) (by omega) (by omega) (by omega) (by decide) (by omega)
  simpa [cloisterref02_Number.f, num] using this
theorem rtext_eq (s : ByteArray) (hs : s.size ≤ 140737488351232) (a : Nat) (ha : a ≤ s.size) (k : Nat) (hk : 12 < k) :
    (∃ v b, txt ((bytesOf s).drop a) = some (v, (bytesOf s).drop b) ∧ b ≤ s.size ∧ cloisterref11_textOf.f k s (a : Int) = some (v, (b : Int))) ∨ (txt ((bytesOf s).drop a) = none ∧ cloisterref11_textOf.f k s (a : Int) = some (⟨#[]⟩, -1)) := by
  unfold txt cloisterref11_textOf.f
  rcases rnum_eq s hs a ha k hk with ⟨v, b, e1, hb, e2⟩ | ⟨e1, e2⟩
  · have hp := num_pos e1
    obtain ⟨n, rfl⟩ := Int.eq_ofNat_of_zero_le hp.1
    rw [e1, e2, Option.bind_some, Option.bind_some]
    simp only [Int.toNat_natCast, List.length_drop, bytesOf_length]
    rw [if_neg (show ¬ (b : Int) < 0 by omega), w64 (x := (s.size : Int) - (b : Int)) (by omega), w64 (x := (b : Int) + (n : Int)) (by omega)]
    by_cases hc : n ≤ s.size - b
    · rw [if_pos hc, if_neg (show ¬ (n : Int) > (s.size : Int) - (b : Int) by omega), if_pos (show (0 : Int) ≤ (b : Int) by omega), if_pos (show (b : Int) ≤ (b : Int) + (n : Int) by omega), if_pos (show (b : Int) + (n : Int) ≤ (s.size : Int) by omega)]
      rw [show (b : Int) + (n : Int) = ((b + n : Nat) : Int) by push_cast; rfl, Int.toNat_natCast, strOfNums_take, List.drop_drop]
      exact .inl ⟨_, b + n, rfl, by omega, rfl⟩
    · rw [if_neg hc, if_pos (show (n : Int) > (s.size : Int) - (b : Int) by omega)]
      exact .inr ⟨rfl, rfl⟩
  · rw [e1, e2, Option.bind_none, Option.bind_some]
    exact .inr ⟨rfl, rfl⟩
theorem rset_l0 (s : ByteArray) (hs : s.size ≤ 140737488351232) (n : Nat) (hn : n ≤ 64) : ∀ (d i a k : Nat) (last : Int) (acc : List Int), d + i = n → d + 20 < k → acc.length = i → 0 ≤ last → last ≤ 2147483647 → a ≤ s.size →
    (∃ v b, setTail d last acc ((bytesOf s).drop a) = some (v, (bytesOf s).drop b) ∧ b ≤ s.size ∧ cloisterref02_SetOf.l0 k s acc (n : Int) (a : Int) last (i : Int) = some (v, (b : Int))) ∨
    (setTail d last acc ((bytesOf s).drop a) = none ∧ ∃ v, cloisterref02_SetOf.l0 k s acc (n : Int) (a : Int) last (i : Int) = some (v, -1)) := by
  intro d
  induction d with
  | zero =>
    intro i a k last acc h1 hk hl h0 hm ha
    obtain ⟨k, rfl⟩ : ∃ m, k = m + 1 := ⟨k - 1, by omega⟩
    unfold cloisterref02_SetOf.l0
    rw [if_neg (by omega)]
    exact .inl ⟨acc, a, rfl, ha, rfl⟩
  | succ d ih =>
    intro i a k last acc h1 hk hl h0 hm ha
    obtain ⟨k, rfl⟩ : ∃ m, k = m + 1 := ⟨k - 1, by omega⟩
    unfold cloisterref02_SetOf.l0
    rw [if_pos (by omega)]
    unfold setTail
    rcases rnum_eq s hs a ha k (by omega) with ⟨v, b, e1, hb, e2⟩ | ⟨e1, e2⟩
    · have hp := num_pos e1
      rw [e1, e2, Option.bind_some, Option.bind_some]
      simp only
      rw [if_neg (show ¬ (b : Int) < 0 by omega), w64 (x := 2147483647 - last) (by omega), w64 (x := last + v) (by omega)]
      by_cases hz : v = 0
      · rw [if_pos hz, if_pos (show v = 0 ∨ last + v > 2147483647 from .inl hz)]; exact .inr ⟨rfl, _, rfl⟩
      · rw [if_neg hz]
        by_cases hg : last + v > 2147483647
        · rw [if_pos (show v > 2147483647 - last by omega), if_pos (show v = 0 ∨ last + v > 2147483647 from .inr hg)]; exact .inr ⟨rfl, _, rfl⟩
        · rw [if_neg (show ¬ v > 2147483647 - last by omega), if_neg (show ¬ (v = 0 ∨ last + v > 2147483647) from fun h => h.elim hz hg), if_pos (show acc.length < 17592186044416 by omega), w64 (x := (i : Int) + 1) (by omega)]
          exact ih (i + 1) b k _ _ (by omega) (by omega) (by simp; omega) (by omega) (by omega) hb
    · rw [e1, e2, Option.bind_none, Option.bind_some]
      exact .inr ⟨rfl, _, rfl⟩
theorem rset_eq (s : ByteArray) (hs : s.size ≤ 140737488351232) (a : Nat) (ha : a ≤ s.size) (k : Nat) (hk : 100 < k) :
    (∃ v b, setP ((bytesOf s).drop a) = some (v, (bytesOf s).drop b) ∧ b ≤ s.size ∧ cloisterref02_SetOf.f k s (a : Int) = some (v, (b : Int))) ∨ (setP ((bytesOf s).drop a) = none ∧ ∃ v, cloisterref02_SetOf.f k s (a : Int) = some (v, -1)) := by
  obtain ⟨k, rfl⟩ : ∃ m, k = m + 1 := ⟨k - 1, by omega⟩
  unfold cloisterref02_SetOf.f setP
  rcases rnum_eq s hs a ha (k + 1) (by omega) with ⟨v, b, e1, hb, e2⟩ | ⟨e1, e2⟩
  · have hp := num_pos e1
    have hb0 : ¬ (b : Int) < 0 := by omega
    rw [e1, e2, Option.bind_some, Option.bind_some]
    simp only [if_neg hb0]
    by_cases h64 : v > 64
    · rw [if_pos h64, show decide (v > 64) = true from decide_eq_true h64]; exact .inr ⟨rfl, _, rfl⟩
    · rw [if_neg h64, show decide (v > 64) = false from decide_eq_false h64]
      obtain ⟨m, rfl⟩ := Int.eq_ofNat_of_zero_le hp.1
      have h := rset_l0 s hs m (by omega) m 0 b k 0 [] (by omega) (by omega) rfl (by omega) (by omega) hb
      exact h
  · rw [e1, e2, Option.bind_none, Option.bind_some]
    exact .inr ⟨rfl, _, rfl⟩
theorem rlab_eq (s : ByteArray) (hs : s.size ≤ 140737488351232) (k : Nat) (hk : 100 < k) :
    (∃ S I b, labP (bytesOf s) = some (S, I, (bytesOf s).drop b) ∧ b ≤ s.size ∧ cloisterref02_Of.f k s = some (S, I, (b : Int), 0)) ∨ (labP (bytesOf s) = none ∧ cloisterref02_Of.f k s = some ([], [], 0, 20)) := by
  have h0 := rset_eq s hs 0 (by omega) k hk
  rw [List.drop_zero] at h0
  unfold cloisterref02_Of.f labP
  rcases h0 with ⟨v, b, e1, hb, e2⟩ | ⟨e1, v, e2⟩
  · have hb0 : ¬ (b : Int) < 0 := by omega
    rw [e1, show cloisterref02_SetOf.f k s 0 = _ from e2, Option.bind_some, Option.bind_some]
    simp only [if_neg hb0]
    rcases rset_eq s hs b hb k hk with ⟨v', b', f1, hb', f2⟩ | ⟨f1, v', f2⟩
    · have hb0' : ¬ (b' : Int) < 0 := by omega
      rw [f1, f2, Option.bind_some, Option.bind_some]
      simp only [if_neg hb0']
      exact .inl ⟨v, v', b', rfl, hb', rfl⟩
    · rw [f1, f2, Option.bind_none, Option.bind_some]
      exact .inr ⟨rfl, rfl⟩
  · rw [e1, Option.bind_none]
    exact .inr ⟨rfl, by rw [show cloisterref02_SetOf.f k s 0 = _ from e2]; rfl⟩
end Go.Proofs.Ythphoifaingbkaa.Sem
