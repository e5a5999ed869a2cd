/- Percent signs in plain words, on lists of bytes. -/
import Derived.Test.YtkaacdfikaggfaaBs
namespace Go.Proofs.Ytkaacdfikaggfaa.UriF
open Go.RowKit Go.Proofs.YtkaacdfikaggfaaW.PrintWords Go.Proofs.Ytkaacdfikaggfaa.Bs
set_option linter.unusedVariables false

def dig (c : Int) : Int := if 48 ≤ c ∧ c ≤ 57 then c - 48 else if 97 ≤ c ∧ c ≤ 102 then c - 87 else if 65 ≤ c ∧ c ≤ 70 then c - 55 else -1
def plainB (c : Int) : Bool := decide (97 ≤ c ∧ c ≤ 122 ∨ 65 ≤ c ∧ c ≤ 90 ∨ 48 ≤ c ∧ c ≤ 57 ∨ c = 45 ∨ c = 46 ∨ c = 95 ∨ c = 126)
def hexd (d : Int) : Int := if d < 10 then 48 + d else 55 + d
def enc1 (c : Int) : List Int := if plainB c = true then [c] else [37, hexd (c / 16), hexd (c % 16)]
def encL (l : List Int) : List Int := l.flatMap enc1
/-- Decoding from a place on, behind what has come so far; the second argument: how many bytes are to be passed over. -/
def decA (plus : Bool) : List Int → Nat → List Int → Int → List Int × Int × Int
  | [], _, acc, _ => (acc, 0, 0)
  | _ :: r, k + 1, acc, at_ => decA plus r k acc (at_ + 1)
  | c :: r, 0, acc, at_ =>
    if c = 37 then
      (if r.length < 2 ∨ dig (r.getD 0 0) < 0 ∨ dig (r.getD 1 0) < 0 then ([], 60, at_)
       else decA plus r 2 (acc ++ [16 * dig (r.getD 0 0) + dig (r.getD 1 0)]) (at_ + 1))
    else if plus = true ∧ c = 43 then decA plus r 0 (acc ++ [32]) (at_ + 1)
    else decA plus r 0 (acc ++ [c]) (at_ + 1)
def decL (plus : Bool) (l : List Int) : List Int × Int × Int := decA plus l 0 [] 0
def decodeR (a0 : ByteArray) (a1 : Bool) : ByteArray × Int × Int := (strOfNums (decL a1 (bytesOf a0)).1, (decL a1 (bytesOf a0)).2)
def decodeF (a0 : ByteArray) (a1 : Bool) : Option (ByteArray × Int × Int) := if a0.size ≤ 140737488351232 then some (decodeR a0 a1) else none
def encodeF (a0 : ByteArray) : Option ByteArray := if 3 * a0.size ≤ 140737488351232 then some (strOfNums (encL (bytesOf a0))) else none

theorem decA_skip (plus : Bool) (r : List Int) (acc : List Int) (at_ : Int) : decA plus r 2 acc at_ = decA plus (r.drop 2) 0 acc (at_ + 2) := by
  match r with
  | [] => simp [decA]
  | [a] => simp [decA]
  | a :: b :: r => simp only [decA, List.drop_succ_cons, List.drop_zero]; congr 1; omega
theorem decA_cons (plus : Bool) (c : Int) (r acc : List Int) (at_ : Int) : decA plus (c :: r) 0 acc at_ =
    (if c = 37 then
      (if r.length < 2 ∨ dig (r.getD 0 0) < 0 ∨ dig (r.getD 1 0) < 0 then ([], 60, at_)
       else decA plus (r.drop 2) 0 (acc ++ [16 * dig (r.getD 0 0) + dig (r.getD 1 0)]) (at_ + 3))
    else if plus = true ∧ c = 43 then decA plus r 0 (acc ++ [32]) (at_ + 1)
    else decA plus r 0 (acc ++ [c]) (at_ + 1)) := by
  rw [decA, decA_skip]
  simp only [show at_ + 1 + 2 = at_ + 3 by omega]
theorem getD_drop (s : ByteArray) (i j : Nat) (h : i + j < s.size) : ((bytesOf s).drop i).getD j 0 = bt s ((i + j : Nat) : Int) := by
  rw [bt_get h, List.getD_eq_getElem?_getD, List.getElem?_drop, List.getElem?_eq_getElem (by rw [bytesOf_length]; exact h)]; rfl
/-- One step, at a place of a text. -/
theorem decA_at (plus : Bool) (s : ByteArray) (i : Nat) (hi : i < s.size) (acc : List Int) : decA plus ((bytesOf s).drop i) 0 acc i =
    (if bt s i = 37 then
      (if (i : Int) + 2 ≥ s.size ∨ dig (bt s ((i : Int) + 1)) < 0 ∨ dig (bt s ((i : Int) + 2)) < 0 then ([], 60, (i : Int))
       else decA plus ((bytesOf s).drop (i + 3)) 0 (acc ++ [16 * dig (bt s ((i : Int) + 1)) + dig (bt s ((i : Int) + 2))]) ((i + 3 : Nat) : Int))
    else if plus = true ∧ bt s i = 43 then decA plus ((bytesOf s).drop (i + 1)) 0 (acc ++ [32]) ((i + 1 : Nat) : Int)
    else decA plus ((bytesOf s).drop (i + 1)) 0 (acc ++ [bt s i]) ((i + 1 : Nat) : Int)) := by
  rw [drop_bt hi, decA_cons]
  have hl : ((bytesOf s).drop (i + 1)).length = s.size - (i + 1) := by rw [List.length_drop, bytesOf_length]
  by_cases h37 : bt s i = 37
  · rw [if_pos h37, if_pos h37, hl]
    by_cases hs : i + 2 ≥ s.size
    · rw [if_pos (.inl (by omega)), if_pos (.inl (by omega))]
    · rw [getD_drop s (i + 1) 0 (by omega), getD_drop s (i + 1) 1 (by omega), List.drop_drop]
      rw [show ((i + 1 + 0 : Nat) : Int) = (i : Int) + 1 by omega, show ((i + 1 + 1 : Nat) : Int) = (i : Int) + 2 by omega, show i + 1 + 2 = i + 3 by omega, show ((i + 3 : Nat) : Int) = (i : Int) + 3 by omega]
      have e1 : (s.size - (i + 1) < 2) = False := eq_false (by omega)
      have e2 : ((i : Int) + 2 ≥ s.size) = False := eq_false (by omega)
      simp only [e1, e2]
  · rw [if_neg h37, if_neg h37]
    rfl
theorem decA_end (plus : Bool) (s : ByteArray) (i : Nat) (hi : s.size ≤ i) (acc : List Int) (at_ : Int) : decA plus ((bytesOf s).drop i) 0 acc at_ = (acc, 0, 0) := by
  rw [drop_end hi]; rfl

/-! What is written with percent signs is read as it was. -/
theorem dig_hexd {d : Int} (h0 : 0 ≤ d) (h : d ≤ 15) : dig (hexd d) = d := by unfold dig hexd; split <;> split <;> (try split) <;> (try split) <;> omega
theorem plain_ne {c : Int} (h : plainB c = true) : c ≠ 37 ∧ c ≠ 43 := by
  unfold plainB at h
  have := of_decide_eq_true h
  omega
theorem decA_enc1 (plus : Bool) {c : Int} (hc : isByte c) (r acc : List Int) (at_ : Int) : ∃ at2, decA plus (enc1 c ++ r) 0 acc at_ = decA plus r 0 (acc ++ [c]) at2 := by
  unfold isByte at hc
  unfold enc1
  by_cases h : plainB c = true
  · rw [if_pos h]
    obtain ⟨h1, h2⟩ := plain_ne h
    refine ⟨at_ + 1, ?_⟩
    rw [List.singleton_append, decA_cons, if_neg h1, if_neg (fun e => h2 e.2)]
  · rw [if_neg h]
    refine ⟨at_ + 3, ?_⟩
    rw [List.cons_append, decA_cons, if_pos rfl]
    have e0 : (([hexd (c / 16), hexd (c % 16)] ++ r).getD 0 0) = hexd (c / 16) := rfl
    have e1 : (([hexd (c / 16), hexd (c % 16)] ++ r).getD 1 0) = hexd (c % 16) := rfl
    rw [e0, e1, dig_hexd (by omega) (by omega), dig_hexd (by omega) (by omega), if_neg (by simp only [List.length_append, List.length_cons, List.length_nil]; omega)]
    rw [show 16 * (c / 16) + c % 16 = c by omega]; rfl
theorem decA_encL (plus : Bool) : ∀ (l : List Int), (∀ x ∈ l, isByte x) → ∀ (acc : List Int) (at_ : Int), decA plus (encL l) 0 acc at_ = (acc ++ l, 0, 0) := by
  intro l
  induction l with
  | nil => intro _ acc at_; simp [encL, decA]
  | cons c r ih =>
    intro h acc at_
    obtain ⟨at2, e⟩ := decA_enc1 plus (h c List.mem_cons_self) (encL r) acc at_
    rw [show encL (c :: r) = enc1 c ++ encL r from rfl, e, ih (fun x hx => h x (List.mem_cons_of_mem _ hx))]
    simp
theorem enc1_byte {c : Int} (hc : isByte c) : ∀ x ∈ enc1 c, isByte x := by
  unfold enc1 isByte at *
  split
  · intro x hx; obtain rfl := List.mem_singleton.1 hx; exact hc
  · intro x hx
    simp only [List.mem_cons, List.not_mem_nil, or_false] at hx
    unfold hexd at hx
    rcases hx with rfl | rfl | rfl
    · omega
    · split <;> omega
    · split <;> omega
theorem encL_byte {l : List Int} (h : ∀ x ∈ l, isByte x) : ∀ x ∈ encL l, isByte x := by
  intro x hx
  obtain ⟨c, hc, hx⟩ := List.mem_flatMap.1 hx
  exact enc1_byte (h c hc) x hx
theorem enc1_len (c : Int) : 1 ≤ (enc1 c).length ∧ (enc1 c).length ≤ 3 := by unfold enc1; split <;> simp
theorem encL_len (l : List Int) : (encL l).length ≤ 3 * l.length := by
  induction l with
  | nil => simp [encL]
  | cons c r ih => have := enc1_len c; rw [show encL (c :: r) = enc1 c ++ encL r from rfl, List.length_append, List.length_cons]; omega
theorem dig_range (c : Int) : -1 ≤ dig c ∧ dig c ≤ 15 := by unfold dig; split; · omega
                                                            split; · omega
                                                            split <;> omega
theorem decA_byte (plus : Bool) : ∀ (l : List Int), (∀ x ∈ l, isByte x) → ∀ (k : Nat) (acc : List Int) (at_ : Int), (∀ x ∈ acc, isByte x) → ∀ x ∈ (decA plus l k acc at_).1, isByte x := by
  intro l
  induction l with
  | nil => intro _ k acc at_ ha; cases k <;> exact ha
  | cons c r ih =>
    intro h k acc at_ ha
    have hr := fun x hx => h x (List.mem_cons_of_mem _ hx)
    have add : ∀ y, isByte y → ∀ x ∈ acc ++ [y], isByte x := fun y hy x hx => by
      rcases List.mem_append.1 hx with hx | hx
      · exact ha x hx
      · obtain rfl := List.mem_singleton.1 hx; exact hy
    cases k with
    | succ k => exact ih hr k acc _ ha
    | zero =>
      simp only [decA]
      split
      · split
        · intro x hx; cases hx
        · rename_i h1
          refine ih hr _ _ _ (add _ ?_)
          have d0 := dig_range (r.getD 0 0)
          have d1 := dig_range (r.getD 1 0)
          unfold isByte
          omega
      · split
        · exact ih hr _ _ _ (add _ (by unfold isByte; omega))
        · exact ih hr _ _ _ (add _ (h c List.mem_cons_self))
theorem decA_len (plus : Bool) : ∀ (l : List Int) (k : Nat) (acc : List Int) (at_ : Int), (decA plus l k acc at_).1.length ≤ acc.length + l.length := by
  intro l
  induction l with
  | nil => intro k acc at_; cases k <;> simp [decA]
  | cons c r ih =>
    intro k acc at_
    cases k with
    | succ k => have := ih k acc (at_ + 1); simp only [decA, List.length_cons]; omega
    | zero =>
      simp only [decA]
      split
      · split
        · simp
        · have := ih 2 (acc ++ [16 * dig (r.getD 0 0) + dig (r.getD 1 0)]) (at_ + 1); simp only [List.length_append, List.length_cons, List.length_nil] at this ⊢; omega
      · split
        · have := ih 0 (acc ++ [32]) (at_ + 1); simp only [List.length_append, List.length_cons, List.length_nil] at this ⊢; omega
        · have := ih 0 (acc ++ [c]) (at_ + 1); simp only [List.length_append, List.length_cons, List.length_nil] at this ⊢; omega
theorem decA_pos (plus : Bool) : ∀ (l : List Int) (k : Nat) (acc : List Int) (at_ : Int), 0 ≤ at_ → 0 ≤ (decA plus l k acc at_).2.2 ∧ (decA plus l k acc at_).2.2 ≤ at_ + l.length := by
  intro l
  induction l with
  | nil => intro k acc at_ h; cases k <;> (simp only [decA, List.length_nil]; omega)
  | cons c r ih =>
    intro k acc at_ h
    cases k with
    | succ k => have := ih k acc (at_ + 1) (by omega); simp only [decA, List.length_cons]; omega
    | zero =>
      simp only [decA, List.length_cons]
      split
      · split
        · simp only; omega
        · have := ih 2 (acc ++ [16 * dig (r.getD 0 0) + dig (r.getD 1 0)]) (at_ + 1) (by omega); omega
      · split
        · have := ih 0 (acc ++ [32]) (at_ + 1) (by omega); omega
        · have := ih 0 (acc ++ [c]) (at_ + 1) (by omega); omega
theorem decodeR_pos (a0 : ByteArray) (a1 : Bool) : 0 ≤ (decodeR a0 a1).2.2 ∧ (decodeR a0 a1).2.2 ≤ a0.size := by
  have := decA_pos a1 (bytesOf a0) 0 [] 0 (by omega)
  rw [bytesOf_length] at this
  unfold decodeR decL
  simp only; omega
end Go.Proofs.Ytkaacdfikaggfaa.UriF
