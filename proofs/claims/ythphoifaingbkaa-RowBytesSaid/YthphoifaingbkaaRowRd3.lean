/- What label.Of and row.Of come to: the lists' readers. -/
import Derived.Test.YthphoifaingbkaaRowRd2
import Derived.Test.YthphoifaingbkaaRowOfF
namespace Go.Proofs.Ythphoifaingbkaa.Sem
open Go.RowKit Go.Proofs.YthphoifaingbkaaW Go.Proofs.YthphoifaingbkaaW.PrintWords Go.Proofs.YthphoifaingbkaaW.PrintMore Go.Proofs.Ythphoifaingbkaa.LabelB Go.Proofs.Ythphoifaingbkaa.RowOf
set_option linter.unusedVariables false

theorem shl_nxt (n c : Int) (i : Nat) (hi : i ≤ 4) : Go.bits .or .i64 n (shl .i64 (wrap64 (Go.bits .and .u8 c 127)) (wrap64 (7 * (i : Int)))) = nxt n c i := by
  unfold nxt shl
  rw [show wrap64 (7 * (i : Int)) = ((7 * i : Nat) : Int) from by unfold wrap64; omega, Int.toNat_natCast, Nat.min_eq_left (by show 7 * i ≤ 64; omega), PrintLast.i64_w]
theorem lnum_l0 (s : ByteArray) (hs : s.size ≤ 9223372036854775807) : ∀ (d i k : Nat) (n : Int), i ≤ 5 → d + i = 6 → 2 * d < k → 0 ≤ n → n < 2 ^ (7 * i) → i ≤ s.size →
    Reads s (numL i n ((bytesOf s).drop i)) (Pof.label_number.l0 k s n (i : Int)) (fun v b => some (v, (b : Int))) (fun x => x = some (0, 0)) := by
  intro d
  induction d with
  | zero => intro i k n h5 h6; omega
  | succ d ih =>
    intro i k n h5 h6 hk h0 h1 hi
    obtain ⟨k, rfl⟩ : ∃ m, k = m + 2 := ⟨k - 2, by omega⟩
    unfold Pof.label_number.l0
    by_cases he : i = s.size
    · rw [if_neg (by omega), drop_end (by omega)]
      exact .inr ⟨by simp [numL], by unfold Pof.label_number.j1; rw [if_neg (by decide)]⟩
    · have hlt : i < s.size := by omega
      rw [if_pos (by omega), drop_bt hlt]
      unfold Pof.label_number.j1
      by_cases hi5 : i = 5
      · rw [if_neg (by simp; omega)]
        exact .inr ⟨by simp [numL, hi5], rfl⟩
      · have h7 : wrap64 (7 * (i : Int)) = 7 * (i : Int) := by unfold wrap64; omega
        rw [if_pos (by simp; omega), if_pos (by omega), if_pos (by omega), if_pos (by rw [h7]; omega), shl_nxt n _ i (by omega)]
        have hb := bt_range s (i : Int)
        have hv := nxt_val n (bt s i) i (by omega) h0 h1 hb.1 hb.2
        have hn := next_bound (c := bt s i) h0 h1
        have hw : wrap64 ((i : Int) + 1) = ((i + 1 : Nat) : Int) := by unfold wrap64; omega
        unfold numL
        rw [if_neg hi5, hv, hw]
        generalize bt s (i : Int) = c at *
        by_cases hc : c < 128
        · rw [if_pos hc, if_pos hc]
          by_cases hz : c = 0
          · rw [if_pos hz]
            by_cases hp : 0 < i
            · rw [if_pos (show (i : Int) > 0 by omega), if_pos (show (c = 0 ∧ 0 < i) ∨ n + c % 128 * 2 ^ (7 * i) > 2147483647 from .inl ⟨hz, hp⟩)]; exact .inr ⟨rfl, rfl⟩
            · rw [if_neg (show ¬ (i : Int) > 0 by omega)]
              by_cases hg : n + c % 128 * 2 ^ (7 * i) > 2147483647
              · rw [if_pos hg, if_pos (show (c = 0 ∧ 0 < i) ∨ n + c % 128 * 2 ^ (7 * i) > 2147483647 from .inr hg)]; exact .inr ⟨rfl, rfl⟩
              · rw [if_neg hg, if_neg (show ¬ ((c = 0 ∧ 0 < i) ∨ n + c % 128 * 2 ^ (7 * i) > 2147483647) from fun h => h.elim (fun h => hp h.2) hg)]
                exact .inl ⟨_, i + 1, rfl, by omega, rfl⟩
          · rw [if_neg hz]
            by_cases hg : n + c % 128 * 2 ^ (7 * i) > 2147483647
            · rw [if_pos hg, if_pos (show (c = 0 ∧ 0 < i) ∨ n + c % 128 * 2 ^ (7 * i) > 2147483647 from .inr hg)]; exact .inr ⟨rfl, rfl⟩
            · rw [if_neg hg, if_neg (show ¬ ((c = 0 ∧ 0 < i) ∨ n + c % 128 * 2 ^ (7 * i) > 2147483647) from fun h => h.elim (fun h => hz h.1) hg)]
              exact .inl ⟨_, i + 1, rfl, by omega, rfl⟩
        · rw [if_neg hc, if_neg hc]
          exact ih (i + 1) k _ (by omega) (by omega) (by omega) hn.1 hn.2 (by omega)
theorem numL_len : ∀ (L : List Int) (i : Nat) (n v : Int) (r : List Int), numL i n L = some (v, r) → r.length < L.length := by
  intro L
  induction L with
  | nil => intro i n v r h; simp [numL] at h
  | cons c t ih =>
    intro i n v r h
    unfold numL at h
    split at h
    · cases h
    · split at h
      · split at h
        · cases h
        · simp only [Option.some.injEq, Prod.mk.injEq] at h
          rw [← h.2]; simp
      · have := ih _ _ _ _ h; simp; omega
theorem bytes_tail (s : ByteArray) (a : Nat) : bytesOf (s.extract a s.size) = (bytesOf s).drop a := by
  show ((s.extract a s.size).data.toList.map _) = _
  rw [ByteArray.data_extract]
  simp only [bytesOf, Array.toList_extract, List.map_take, List.map_drop, List.extract]
  rw [List.take_of_length_le (by simp)]
theorem tail_size (s : ByteArray) (a : Nat) : (s.extract a s.size).size = s.size - a := by rw [ByteArray.size_extract]; omega
/-- label.number on what stands from a place on. -/
theorem lnum_at (s : ByteArray) (hs : s.size ≤ 9223372036854775807) (a : Nat) (ha : a ≤ s.size) (k : Nat) (hk : 12 < k) :
    (∃ v b, num ((bytesOf s).drop a) = some (v, (bytesOf s).drop b) ∧ a < b ∧ b ≤ s.size ∧ Pof.label_number.f k (s.extract a s.size) = some (v, ((b - a : Nat) : Int))) ∨ (num ((bytesOf s).drop a) = none ∧ Pof.label_number.f k (s.extract a s.size) = some (0, 0)) := by
  have h := lnum_l0 (s.extract a s.size) (by rw [tail_size]; omega) 6 0 k 0 (by omega) (by omega) (by omega) (by omega) (by decide) (by omega)
  rw [bytes_tail, List.drop_zero] at h
  rcases h with ⟨v, b, h1, h2, h3⟩ | ⟨h1, h3⟩
  · rw [bytes_tail, List.drop_drop] at h1
    refine .inl ⟨v, a + b, h1, ?_, by rw [tail_size] at h2; omega, by rw [show a + b - a = b by omega]; exact h3⟩
    have := numL_len _ _ _ _ _ h1
    rw [List.length_drop, List.length_drop] at this
    omega
  · exact .inr ⟨h1, h3⟩
theorem lcut_l0 (s : ByteArray) (hs : s.size ≤ 9223372036854775807) (n : Nat) (hn : n ≤ 64) : ∀ (d i a k : Nat) (last : Int) (acc : List Int), d + i = n → d + 20 < k → acc.length = i → 0 ≤ last → last ≤ 2147483647 → a ≤ s.size →
    (∃ v b, setTail d last acc ((bytesOf s).drop a) = some (v, (bytesOf s).drop b) ∧ b ≤ s.size ∧ Pof.label_cut.l0 k s (a : Int) acc last (n : Int) (i : Int) = some (v, (b : Int), true)) ∨
    (setTail d last acc ((bytesOf s).drop a) = none ∧ Pof.label_cut.l0 k s (a : Int) acc last (n : Int) (i : Int) = some ([], 0, false)) := by
  intro d
  induction d with
  | zero =>
    intro i a k last acc h1 hk hl h0 hm ha
    obtain ⟨k, rfl⟩ : ∃ m, k = m + 1 := ⟨k - 1, by omega⟩
    unfold Pof.label_cut.l0
    rw [if_neg (by omega)]
    exact .inl ⟨acc, a, rfl, ha, rfl⟩
  | succ d ih =>
    intro i a k last acc h1 hk hl h0 hm ha
    obtain ⟨k, rfl⟩ : ∃ m, k = m + 1 := ⟨k - 1, by omega⟩
    unfold Pof.label_cut.l0
    rw [if_pos (by omega), if_pos (by omega), if_pos (by omega), Int.toNat_natCast]
    unfold setTail
    rcases lnum_at s hs a ha k (by omega) with ⟨v, b, e1, hab, hb, e2⟩ | ⟨e1, e2⟩
    · have hp := num_pos e1
      rw [e1, e2, Option.bind_some, Option.bind_some]
      simp only
      rw [if_neg (show ¬ ((b - a : Nat) : Int) = 0 by omega), w64 (x := last + v) (by omega)]
      by_cases hz : v = 0
      · rw [if_pos hz, if_pos (show v = 0 ∨ last + v > 2147483647 from .inl hz)]; exact .inr ⟨rfl, rfl⟩
      · rw [if_neg hz]
        by_cases hg : last + v > 2147483647
        · rw [if_pos hg, if_pos (show v = 0 ∨ last + v > 2147483647 from .inr hg)]; exact .inr ⟨rfl, rfl⟩
        · rw [if_neg hg, if_neg (show ¬ (v = 0 ∨ last + v > 2147483647) from fun h => h.elim hz hg), if_pos (show acc.length < 17592186044416 by omega), w64 (x := (i : Int) + 1) (by omega), w64 (x := (a : Int) + ((b - a : Nat) : Int)) (by omega), show (a : Int) + ((b - a : Nat) : Int) = (b : Int) by omega]
          exact ih (i + 1) b k _ _ (by omega) (by omega) (by simp; omega) (by omega) (by omega) hb
    · rw [e1, e2, Option.bind_none, Option.bind_some]
      exact .inr ⟨rfl, by simp⟩
theorem extract_all (s : ByteArray) : s.extract 0 s.size = s := bytesOf_inj (by rw [bytes_tail]; rfl)
theorem lcut_eq (s : ByteArray) (hs : s.size ≤ 9223372036854775807) (k : Nat) (hk : 100 < k) :
    (∃ v b, setP (bytesOf s) = some (v, (bytesOf s).drop b) ∧ b ≤ s.size ∧ Pof.label_cut.f k s = some (v, (b : Int), true)) ∨ (setP (bytesOf s) = none ∧ Pof.label_cut.f k s = some ([], 0, false)) := by
  obtain ⟨k, rfl⟩ : ∃ m, k = m + 1 := ⟨k - 1, by omega⟩
  have h := lnum_at s hs 0 (by omega) (k + 1) (by omega)
  rw [List.drop_zero, extract_all] at h
  unfold Pof.label_cut.f setP
  rcases h with ⟨v, b, e1, hab, hb, e2⟩ | ⟨e1, e2⟩
  · have hp := num_pos e1
    have hb0 : ¬ ((b - 0 : Nat) : Int) = 0 := by omega
    rw [e1, e2, Option.bind_some, Option.bind_some]
    simp only [if_neg hb0]
    by_cases h64 : v > 64
    · rw [if_pos h64, show decide (v > 64) = true from decide_eq_true h64]; exact .inr ⟨rfl, rfl⟩
    · rw [if_neg h64, show decide (v > 64) = false from decide_eq_false h64, show ((b - 0 : Nat) : Int) = (b : Int) by omega]
      obtain ⟨m, rfl⟩ := Int.eq_ofNat_of_zero_le hp.1
      have h := lcut_l0 s hs m (by omega) m 0 b k 0 [] (by omega) (by omega) rfl (by omega) (by omega) hb
      exact h
  · rw [e1, e2, Option.bind_none, Option.bind_some]
    exact .inr ⟨rfl, rfl⟩
theorem lof_eq (s : ByteArray) (hs : s.size ≤ 9223372036854775807) (k : Nat) (hk : 100 < k) :
    (∃ S I b, labP (bytesOf s) = some (S, I, (bytesOf s).drop b) ∧ b ≤ s.size ∧ Pof.label_Of.f k s = some (S, I, (b : Int), 0)) ∨ (labP (bytesOf s) = none ∧ Pof.label_Of.f k s = some ([], [], 0, 20)) := by
  unfold Pof.label_Of.f labP
  rcases lcut_eq s hs k hk with ⟨v, b, e1, hb, e2⟩ | ⟨e1, e2⟩
  · rw [e1, e2, Option.bind_some, Option.bind_some]
    simp only [if_true]
    rw [if_pos (show (0 : Int) ≤ (b : Int) by omega), if_pos (show (b : Int) ≤ (s.size : Int) by omega), Int.toNat_natCast]
    have h2 := lcut_eq (s.extract b s.size) (by rw [tail_size]; omega) k hk
    rw [bytes_tail, tail_size] at h2
    rcases h2 with ⟨v', b', f1, hb', f2⟩ | ⟨f1, f2⟩
    · rw [f1, f2, Option.bind_some, Option.bind_some]
      simp only [if_true]
      rw [w64 (x := (b : Int) + (b' : Int)) (by omega), List.drop_drop]
      exact .inl ⟨v, v', b + b', rfl, by omega, by push_cast; rfl⟩
    · rw [f1, f2, Option.bind_none, Option.bind_some]
      exact .inr ⟨rfl, rfl⟩
  · rw [e1, e2, Option.bind_none, Option.bind_some]
    exact .inr ⟨rfl, rfl⟩
theorem cellsGo_bad (s : ByteArray) : ∀ (d a : Nat) (n : Int) (l : List ByteArray), cellsGo s d false a n l = (l, false, a) := by
  intro d a n l
  cases d with
  | zero => rfl
  | succ d => rw [cellsGo, if_neg (by simp)]
theorem cellsGo_few (s : ByteArray) : ∀ (m d a : Nat) (l : List ByteArray), l.length + m ≤ 8 → m ≤ d → a ≤ s.size →
    (∃ v b, cellsP m l ((bytesOf s).drop a) = some (v, (bytesOf s).drop b) ∧ b ≤ s.size ∧ cellsGo s d true a (m : Int) l = (v, true, b)) ∨ (cellsP m l ((bytesOf s).drop a) = none ∧ (cellsGo s d true a (m : Int) l).2.1 = false) := by
  intro m
  induction m with
  | zero =>
    intro d a l h1 h2 ha
    refine .inl ⟨l, a, rfl, ha, ?_⟩
    cases d with
    | zero => rfl
    | succ d => rw [cellsGo, if_neg (by simp)]
  | succ m ih =>
    intro d a l h1 h2 ha
    obtain ⟨d, rfl⟩ : ∃ e, d = e + 1 := ⟨d - 1, by omega⟩
    rw [cellsGo, if_pos ⟨rfl, by omega⟩]
    unfold cellsP
    rcases rd_txt s a ha with ⟨v, b, e1, hb, e2⟩ | ⟨e1, e2⟩
    · rw [e1, e2, Option.bind_some]
      simp only
      rw [show (true && decide (l.length + 1 ≤ 8)) = true from by simp; omega, show ((m + 1 : Nat) : Int) - 1 = (m : Int) by omega]
      exact ih d b _ (by simp; omega) (by omega) hb
    · rw [e1, Option.bind_none, e2, Bool.false_and, cellsGo_bad]
      exact .inr ⟨rfl, rfl⟩
theorem cellsGo_many (s : ByteArray) : ∀ (d a : Nat) (m : Int) (l : List ByteArray), 8 < (l.length : Int) + m → l.length ≤ 8 → 9 ≤ l.length + d → (cellsGo s d true a m l).2.1 = false := by
  intro d
  induction d with
  | zero => intro a m l h1 h2 h3; omega
  | succ d ih =>
    intro a m l h1 h2 h3
    rw [cellsGo, if_pos ⟨rfl, by omega⟩]
    cases h : (rdF true s a).2.1 && decide (l.length + 1 ≤ 8) with
    | false => rw [cellsGo_bad]
    | true =>
      simp only [Bool.and_eq_true, decide_eq_true_eq] at h
      exact ih _ _ _ (by simp; omega) (by simp; omega) (by simp; omega)
theorem ofF_eq (s : ByteArray) (hs : s.size ≤ 9223372036854775807) (k : Nat) (hk : 100 < k) :
    (∃ key cl S I who b, rowP (bytesOf s) = some (key, cl, S, I, who, (bytesOf s).drop b) ∧ b ≤ s.size ∧ ofF k s = some (key, cl, S, I, who, (b : Int), 0)) ∨
    (rowP (bytesOf s) = none ∧ ofF k s = some (⟨#[]⟩, [], [], [], 0, 0, 110)) := by
  have h0 := rd_txt s 0 (by omega)
  rw [List.drop_zero] at h0
  unfold rowP ofF
  have bad : ∀ a n, (cellsGo s 10 false a n []).2.1 = false := fun a n => by rw [cellsGo_bad]
  rcases h0 with ⟨key, a1, e1, h1, f1⟩ | ⟨e1, f1⟩
  · rw [e1, f1, Option.bind_some]
    simp only
    rcases cnt_num s a1 h1 with ⟨n, a2, e2, h2, f2⟩ | ⟨e2, f2⟩
    · have hp := num_pos e2
      obtain ⟨n, rfl⟩ := Int.eq_ofNat_of_zero_le hp.1
      rw [e2, f2, Option.bind_some]
      simp only [Int.toNat_natCast]
      by_cases h8 : (n : Int) > 8
      · rw [if_pos h8]
        have := cellsGo_many s 10 a2 (n : Int) [] (by simp; omega) (by simp) (by simp)
        obtain ⟨CL, ok3, a3, hc⟩ : ∃ CL ok3 a3, cellsGo s 10 true a2 (n : Int) [] = (CL, ok3, a3) := ⟨_, _, _, rfl⟩
        rw [hc] at this ⊢
        simp only at this ⊢
        rw [this]
        exact .inr ⟨by first | rfl | trivial, by first | rfl | simp⟩
      · rw [if_neg h8]
        rcases cellsGo_few s n 10 a2 [] (by simp; omega) (by omega) h2 with ⟨cl, a3, e3, h3, f3⟩ | ⟨e3, f3⟩
        · rw [e3, f3, Option.bind_some]
          simp only [if_true]
          have hl := lof_eq (s.extract a3 s.size) (by rw [tail_size]; omega) k hk
          rw [bytes_tail, tail_size] at hl
          rcases hl with ⟨S, I, u, e4, h4, f4⟩ | ⟨e4, f4⟩
          · rw [e4, f4, Option.bind_some, Option.bind_some]
            simp only [Int.toNat_natCast, List.drop_drop]
            rw [if_pos ⟨by omega, by omega⟩]
            unfold tailF
            rw [show ((0 : Int) == 0) = true from rfl]
            rcases cnt_num s (a3 + u) (by omega) with ⟨w, a5, e5, h5, f5⟩ | ⟨e5, f5⟩
            · rw [e5, f5, Option.bind_some]
              simp only [if_true]
              rw [ocheck_eq key cl S I (w - 1) k (by omega), Option.bind_some]
              by_cases hok : okRow key cl S I (w - 1) = true
              · rw [if_pos hok, if_pos hok, if_pos rfl]
                exact .inl ⟨_, _, _, _, _, a5, rfl, h5, rfl⟩
              · rw [if_neg hok, if_neg hok, if_neg (by decide)]
                exact .inr ⟨by first | rfl | trivial, by first | rfl | simp⟩
            · rw [e5, Option.bind_none, if_neg (by rw [f5]; simp)]
              exact .inr ⟨by first | rfl | trivial, by first | rfl | simp⟩
          · rw [e4, f4, Option.bind_none, Option.bind_some]
            simp only
            rw [if_pos ⟨by omega, by omega⟩]
            unfold tailF
            rw [show ((20 : Int) == 0) = false from rfl, if_neg (by simp [cnt, cntAt])]
            exact .inr ⟨by first | rfl | trivial, by first | rfl | simp⟩
        · rw [e3, Option.bind_none]
          obtain ⟨CL, ok3, a3, hc⟩ : ∃ CL ok3 a3, cellsGo s 10 true a2 (n : Int) [] = (CL, ok3, a3) := ⟨_, _, _, rfl⟩
          rw [hc] at f3 ⊢
          simp only at f3 ⊢
          rw [f3]
          exact .inr ⟨by first | rfl | trivial, by first | rfl | simp⟩
    · obtain ⟨n, ok2, a2, hc⟩ : ∃ n ok2 a2, cnt true s a1 = (n, ok2, a2) := ⟨_, _, _, rfl⟩
      rw [hc] at f2 ⊢
      simp only at f2 ⊢
      subst f2
      rw [e2, Option.bind_none, cellsGo_bad]
      exact .inr ⟨by first | rfl | trivial, by first | rfl | simp⟩
  · obtain ⟨key, ok1, a1, hr⟩ : ∃ key ok1 a1, rdF true s 0 = (key, ok1, a1) := ⟨_, _, _, rfl⟩
    rw [hr] at f1 ⊢
    simp only at f1 ⊢
    subst f1
    rw [e1, Option.bind_none, show cnt false s a1 = (0, false, a1) from by simp [cnt, cntAt]]
    simp only
    rw [cellsGo_bad]
    exact .inr ⟨by first | rfl | trivial, by first | rfl | simp⟩
end Go.Proofs.Ythphoifaingbkaa.Sem
