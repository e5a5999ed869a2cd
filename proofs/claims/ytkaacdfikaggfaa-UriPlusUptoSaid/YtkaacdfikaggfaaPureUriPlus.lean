/- The pure statement of UriPlus. -/
import Derived.Test.YtkaacdfikaggfaaStUriPlus
import Derived.Test.YtkaacdfikaggfaaSemPlus
namespace Go.Proofs.Ytkaacdfikaggfaa
open Go.RowKit YtkaacdfikaggfaaW.PrintWords Go.Proofs.Ytkaacdfikaggfaa.PP Go.Proofs.Ytkaacdfikaggfaa.Bs Go.Proofs.Ytkaacdfikaggfaa.UriF Go.Proofs.Ytkaacdfikaggfaa.Sem
set_option linter.unusedVariables false
theorem Sem.awake06 : cloisterlaw06_awake.f = some true := by decide +kernel
theorem Sem.brk_at (s : ByteArray) (i : Nat) (hi : i < s.size) : brk ((bytesOf s).drop i) = ((decide (bt s i = 37) && (decide (i + 1 < s.size ∧ bt s ((i : Int) + 1) = 43) || decide (i + 2 < s.size ∧ bt s ((i : Int) + 2) = 43))) || brk ((bytesOf s).drop (i + 1))) := by
  rw [drop_bt hi, brk]
  congr 2
  have e1 : ((bytesOf s).drop (i + 1)).head? = if i + 1 < s.size then some (bt s ((i : Int) + 1)) else none := by
    by_cases h : i + 1 < s.size
    · rw [drop_bt h, if_pos h]; rfl
    · rw [drop_end (by omega), if_neg h]; rfl
  have e2 : ((bytesOf s).drop (i + 1)).tail.head? = if i + 2 < s.size then some (bt s ((i : Int) + 2)) else none := by
    rw [List.tail_drop]
    by_cases h : i + 2 < s.size
    · rw [show i + 1 + 1 = i + 2 by omega, drop_bt h, if_pos h]; rfl
    · rw [drop_end (by omega), if_neg h]; rfl
  rw [e1, e2]
  congr 1
  · by_cases h : i + 1 < s.size
    · simp [h]
    · simp [h]
  · by_cases h : i + 2 < s.size
    · simp [h]
    · simp [h]
theorem Sem.plus_l1 (s : ByteArray) (hs : s.size ≤ 1048576) (a b c d : ByteArray) (e f g h : Int) (B : Bool) (h1 : B = true → e = 60 ∧ g = 60) (h2 : B = false → a = b ∧ e = f ∧ c = d ∧ g = h ∧ e = g) :
    ∀ (n i k : Nat) (y : Bool), s.size - i = n → i ≤ s.size → n < k → (y || brk ((bytesOf s).drop i)) = B → cloisterlaw06_UriPlus.l1 k s a e b f c g d h y i = some true := by
  intro n
  induction n with
  | zero =>
    intro i k y hn hi hk hB
    obtain ⟨k, rfl⟩ : ∃ m, k = m + 1 := ⟨k - 1, by omega⟩
    simp only [cloisterlaw06_UriPlus.l1]
    rw [if_neg (by omega)]
    rw [drop_end (by omega), brk, Bool.or_false] at hB
    subst hB
    cases y with
    | true =>
      obtain ⟨rfl, rfl⟩ := h1 rfl
      rw [if_pos rfl, if_pos rfl, if_pos rfl, awake06]; rfl
    | false =>
      obtain ⟨rfl, rfl, rfl, rfl, rfl⟩ := h2 rfl
      simp only [if_true, awake06]
      rfl
  | succ n ih =>
    intro i k y hn hi hk hB
    obtain ⟨k, rfl⟩ : ∃ m, k = m + 1 := ⟨k - 1, by omega⟩
    have hlt : i < s.size := by omega
    have w1 : wrap64 ((i : Int) + 1) = (i : Int) + 1 := w64 (by omega)
    have w2 : wrap64 ((i : Int) + 2) = (i : Int) + 2 := w64 (by omega)
    have e1 : (i : Int) + 1 = ((i + 1 : Nat) : Int) := by omega
    have next : ∀ z : Bool, (z || brk ((bytesOf s).drop (i + 1))) = B → cloisterlaw06_UriPlus.l1 k s a e b f c g d h z ((i : Int) + 1) = some true := fun z hz => by
      rw [e1]; exact ih (i + 1) k z (by omega) (by omega) (by omega) hz
    rw [Sem.brk_at s i hlt] at hB
    simp only [cloisterlaw06_UriPlus.l1]
    rw [if_pos (by omega), w1, w2]
    cases y with
    | true =>
      rw [if_pos rfl]
      exact next true (by simpa using hB)
    | false =>
      rw [if_neg (by decide), if_pos (by omega)]
      rw [Bool.false_or] at hB
      by_cases h37 : bt s i = 37
      · rw [if_pos h37]
        rw [decide_eq_true h37, Bool.true_and] at hB
        have two : (i : Int) + 1 < (s.size : Int) ∨ ¬ (i : Int) + 1 < (s.size : Int) := Decidable.em _
        by_cases b1 : (i : Int) + 1 < (s.size : Int) ∧ bt s ((i : Int) + 1) = 43
        · rw [if_pos b1.1, if_pos (by omega), if_pos b1.2]
          rw [decide_eq_true (show i + 1 < s.size ∧ bt s ((i : Int) + 1) = 43 from ⟨by omega, b1.2⟩), Bool.true_or, Bool.true_or] at hB
          exact next true (by rw [Bool.true_or]; exact hB)
        · rw [decide_eq_false (show ¬ (i + 1 < s.size ∧ bt s ((i : Int) + 1) = 43) from fun q => b1 ⟨by omega, q.2⟩), Bool.false_or] at hB
          have rest : (if (i : Int) + 2 < (s.size : Int) then (if 0 ≤ (i : Int) + 2 then (cloisterlaw06_UriPlus.l1 k s a e b f c g d h ((bt s ((i : Int) + 2)) == 43) ((i : Int) + 1)) else (none)) else (cloisterlaw06_UriPlus.l1 k s a e b f c g d h false ((i : Int) + 1))) = some true := by
            by_cases b2 : (i : Int) + 2 < (s.size : Int)
            · rw [if_pos b2, if_pos (by omega)]
              refine next _ ?_
              rw [← hB]
              congr 1
              rw [Bool.eq_iff_iff]
              simp only [beq_iff_eq, decide_eq_true_eq]
              exact ⟨fun q => ⟨by omega, q⟩, fun q => q.2⟩
            · rw [if_neg b2]
              refine next _ ?_
              rw [← hB, decide_eq_false (by omega)]
          rcases two with b3 | b3
          · rw [if_pos b3, if_pos (by omega), if_neg (fun q => b1 ⟨b3, q⟩)]
            exact rest
          · rw [if_neg b3]
            exact rest
      · rw [if_neg h37]
        rw [decide_eq_false h37, Bool.false_and, Bool.false_or] at hB
        exact next false (by rw [Bool.false_or]; exact hB)
theorem Sem.ex_byte {w l : List Int} (hw : ∀ x ∈ w, isByte x) (hl : ∀ x ∈ l, isByte x) : ∀ x ∈ ex w l, isByte x := by
  intro x hx
  obtain ⟨c, hc, hx⟩ := List.mem_flatMap.1 hx
  split at hx
  · exact hw x hx
  · obtain rfl := List.mem_singleton.1 hx; exact hl _ hc
theorem Sem.ex_len (w l : List Int) (hw : w.length = 3) : (ex w l).length ≤ 3 * l.length := by
  induction l with
  | nil => simp [ex]
  | cons c r ih => 
    rw [ex_cons, List.length_append, List.length_cons]
    split
    · rw [hw]; omega
    · simp only [List.length_cons, List.length_nil]; omega
theorem Sem.plus_l0 (s : ByteArray) (hs : s.size ≤ 1048576) : ∀ (n i k : Nat), s.size - i = n → i ≤ s.size → n + s.size + 5 < k →
    cloisterlaw06_UriPlus.l0 k s (ex [37, 50, 48] ((bytesOf s).take i)) (ex [37, 50, 66] ((bytesOf s).take i)) i = some true := by
  intro n
  induction n with
  | zero =>
    intro i k hn hi hk
    obtain rfl : i = s.size := by omega
    obtain ⟨k, rfl⟩ : ∃ m, k = m + 1 := ⟨k - 1, by omega⟩
    simp only [cloisterlaw06_UriPlus.l0]
    rw [if_neg (by omega), List.take_of_length_le (by rw [bytesOf_length]; exact Nat.le_refl _)]
    have hb0 := ex_byte (w := [37, 50, 48]) (by intro x hx; simp only [List.mem_cons, List.not_mem_nil, or_false] at hx; unfold isByte; omega) (bytesOf_byte s)
    have hb1 := ex_byte (w := [37, 50, 66]) (by intro x hx; simp only [List.mem_cons, List.not_mem_nil, or_false] at hx; unfold isByte; omega) (bytesOf_byte s)
    have l0 := ex_len [37, 50, 48] (bytesOf s) rfl
    have l1 := ex_len [37, 50, 66] (bytesOf s) rfl
    rw [bytesOf_length] at l0 l1
    unfold uri_Decode.f decodeF
    rw [if_pos (by omega), if_pos (by rw [size_strOfNums]; omega), if_pos (by omega), if_pos (by rw [size_strOfNums]; omega)]
    simp only [Option.bind_some]
    refine Sem.plus_l1 s hs _ _ _ _ _ _ _ _ (brk (bytesOf s)) ?_ ?_ s.size 0 k false (by omega) (by omega) (by omega) (by simp)
    · intro hB
      exact ⟨brk_err true _ _ rfl [] 0 hB, brk_err false _ _ rfl [] 0 hB⟩
    · intro hB
      have x1 := ex_dec true [37, 50, 48] w20 _ _ rfl [] 0 0 hB
      have x2 := ex_dec false [37, 50, 66] w2B _ _ rfl [] 0 0 hB
      unfold decodeR decL
      rw [bytesOf_strOfNums hb0, bytesOf_strOfNums hb1]
      exact ⟨by rw [x1.1], x1.2.symm, by rw [x2.1], x2.2.symm, dec_err _ _ rfl _ _ _ _⟩
  | succ n ih =>
    intro i k hn hi hk
    obtain ⟨k, rfl⟩ : ∃ m, k = m + 1 := ⟨k - 1, by omega⟩
    have hlt : i < s.size := by omega
    have l0 := ex_len [37, 50, 48] ((bytesOf s).take i) rfl
    have l1 := ex_len [37, 50, 66] ((bytesOf s).take i) rfl
    have lt := List.length_take_le i (bytesOf s)
    have ht : (bytesOf s).take (i + 1) = (bytesOf s).take i ++ [bt s i] := by
      rw [List.take_succ_eq_append_getElem (by rw [bytesOf_length]; exact hlt), bt_get hlt]
    have := ih (i + 1) k (by omega) (by omega) (by omega)
    rw [ht, ex_append, ex_append] at this
    simp only [cloisterlaw06_UriPlus.l0]
    rw [if_pos (by omega), if_pos (by omega), show wrap64 ((i : Int) + 1) = ((i + 1 : Nat) : Int) by rw [w64 (by omega)]; omega]
    by_cases h43 : bt s i = 43
    · rw [if_pos h43, if_pos (by omega), if_pos (by omega)]
      rw [h43] at this
      exact this
    · rw [if_neg h43, if_pos (by omega), if_pos (by omega)]
      have e : ∀ w, ex w [bt s (i : Int)] = [bt s (i : Int)] := fun w => by simp [ex, h43]
      rw [e, e] at this
      exact this
theorem Pure.UriPlus : UriPlus.Pure := by
  intro s hs hb
  refine ⟨2 * s.size + 10, ?_⟩
  exact Sem.plus_l0 s (by omega) s.size 0 _ rfl (by omega) (by omega)
end Go.Proofs.Ytkaacdfikaggfaa
