/- A row's bytes read as lists of numbers, and that what is written is read as it was. -/
import Derived.Test.YthphoifaingbkaaRowSem2
namespace Go.Proofs.Ythphoifaingbkaa.Sem
open Go.RowKit Go.Proofs.YthphoifaingbkaaW.PrintWords Go.Proofs.Ythphoifaingbkaa.LabelB
set_option linter.unusedVariables false

def numL : Nat → Int → List Int → Option (Int × List Int)
  | _, _, [] => none
  | i, n, c :: r => if i = 5 then none else if c < 128 then (if (c = 0 ∧ 0 < i) ∨ n + c % 128 * 2 ^ (7 * i) > 2147483647 then none else some (n + c % 128 * 2 ^ (7 * i), r)) else numL (i + 1) (n + c % 128 * 2 ^ (7 * i)) r
def num (L : List Int) := numL 0 0 L
def txt (L : List Int) : Option (ByteArray × List Int) := (num L).bind fun p => if p.1.toNat ≤ p.2.length then some (strOfNums (p.2.take p.1.toNat), p.2.drop p.1.toNat) else none
def setTail : Nat → Int → List Int → List Int → Option (List Int × List Int)
  | 0, _, acc, L => some (acc, L)
  | d + 1, last, acc, L => (num L).bind fun p => if p.1 = 0 ∨ last + p.1 > 2147483647 then none else setTail d (last + p.1) (acc ++ [last + p.1]) p.2
def setP (L : List Int) : Option (List Int × List Int) := (num L).bind fun p => if p.1 > 64 then none else setTail p.1.toNat 0 [] p.2
def labP (L : List Int) : Option (List Int × List Int × List Int) := (setP L).bind fun p => (setP p.2).bind fun q => some (p.1, q.1, q.2)
def cellsP : Nat → List ByteArray → List Int → Option (List ByteArray × List Int)
  | 0, acc, L => some (acc, L)
  | d + 1, acc, L => (txt L).bind fun p => cellsP d (acc ++ [p.1]) p.2
def rowP (L : List Int) : Option (ByteArray × List ByteArray × List Int × List Int × Int × List Int) :=
  (txt L).bind fun k => (num k.2).bind fun n => if n.1 > 8 then none else (cellsP n.1.toNat [] n.2).bind fun c => (labP c.2).bind fun l => (num l.2.2).bind fun w =>
    if okRow k.1 c.1 l.1 l.2.1 (w.1 - 1) = true then some (k.1, c.1, l.1, l.2.1, w.1 - 1, w.2) else none

theorem numL_pos : ∀ (L : List Int) (i : Nat) (n v : Int) (r : List Int), 0 ≤ n → numL i n L = some (v, r) → 0 ≤ v ∧ v ≤ 2147483647 := by
  intro L
  induction L with
  | nil => intro i n v r _ h; simp [numL] at h
  | cons c t ih =>
    intro i n v r h0 h
    have hge : 0 ≤ c % 128 * 2 ^ (7 * i) := Int.mul_nonneg (by omega) (Int.le_of_lt (Int.pow_pos (by decide)))
    unfold numL at h
    split at h
    · cases h
    · split at h
      · split at h
        · cases h
        · rename_i h1
          simp only [Option.some.injEq, Prod.mk.injEq] at h
          obtain ⟨rfl, rfl⟩ := h
          exact ⟨by omega, by omega⟩
      · exact ih _ _ _ _ (by omega) h
theorem num_pos {L : List Int} {v : Int} {r : List Int} (h : num L = some (v, r)) : 0 ≤ v ∧ v ≤ 2147483647 := numL_pos L 0 0 v r (by omega) h
theorem numL_uv (d : Nat) : ∀ (q m : Int) (i : Nat) (t : List Int), 0 ≤ q → q < 128 ^ (d + 1) → 0 ≤ m → (q = 0 → i = 0) → m + q * 2 ^ (7 * i) ≤ 2147483647 → numL i m (uv q ++ t) = some (m + q * 2 ^ (7 * i), t) := by
  induction d with
  | zero =>
    intro q m i t h0 h1 hm hz hb
    have hp : (0 : Int) < 2 ^ (7 * i) := Int.pow_pos (by decide)
    have hi : i ≠ 5 := by
      intro h
      subst h
      have h2 : (2 : Int) ^ (7 * 5) = 34359738368 := by decide
      rw [h2] at hb
      rcases Int.lt_or_le 0 q with hq | hq
      · omega
      · have := hz (by omega); omega
    rw [uv_small h0 (by omega)]
    simp only [List.cons_append, List.nil_append, numL]
    rw [if_neg hi, if_pos (by omega), show q % 128 = q by omega, if_neg]
    intro h
    rcases h with h | h
    · have := hz h.1; omega
    · omega
  | succ d ih =>
    intro q m i t h0 h1 hm hz hb
    rcases Int.lt_or_le q 128 with hq | hq
    · have h3 : (128 : Int) ≤ 128 ^ (d + 1) := by
        have h2 : (0 : Int) < 128 ^ d := Int.pow_pos (by decide)
        rw [Int.pow_succ]; omega
      exact ih q m i t h0 (by omega) hm hz hb
    · have hp : (0 : Int) < 2 ^ (7 * i) := Int.pow_pos (by decide)
      have hi : i ≠ 5 := by
        intro h
        subst h
        have h2 : (2 : Int) ^ (7 * 5) = 34359738368 := by decide
        rw [h2] at hb; omega
      have hsplit : q * 2 ^ (7 * i) = q % 128 * 2 ^ (7 * i) + q / 128 * 2 ^ (7 * (i + 1)) := by
        rw [show 7 * (i + 1) = 7 * i + 7 by omega, Int.pow_add, show (2 : Int) ^ 7 = 128 by decide]
        have : q = q % 128 + q / 128 * 128 := by omega
        conv => lhs; rw [this]
        rw [Int.add_mul, Int.mul_assoc, Int.mul_comm 128]
      have hge : 0 ≤ q % 128 * 2 ^ (7 * i) := Int.mul_nonneg (by omega) (by omega)
      rw [uv_big (by omega)]
      simp only [List.cons_append, numL]
      rw [if_neg hi, if_neg (by omega), show (q % 128 + 128) % 128 = q % 128 by omega]
      rw [ih (q / 128) (m + q % 128 * 2 ^ (7 * i)) (i + 1) t (by omega) (by rw [Int.pow_succ] at h1; omega) (by omega) (by omega) (by omega)]
      congr 2; omega
theorem num_uv {n : Int} (h0 : 0 ≤ n) (h1 : n ≤ 2147483647) (t : List Int) : num (uv n ++ t) = some (n, t) := by
  have h5 : (128 : Int) ^ (4 + 1) = 34359738368 := by decide
  have := numL_uv 4 n 0 0 t h0 (by omega) (by omega) (fun _ => rfl) (by simpa using h1)
  simpa [num] using this
theorem strOfNums_bytesOf (a : ByteArray) : strOfNums (bytesOf a) = a := bytesOf_inj (bytesOf_strOfNums (bytesOf_byte a))
theorem txt_tx {a : ByteArray} (h : a.size ≤ 2147483647) (t : List Int) : txt (tx a ++ t) = some (a, t) := by
  unfold txt tx
  rw [List.append_assoc, num_uv (by omega) (by omega)]
  simp only [Option.bind_some, Int.toNat_natCast]
  rw [if_pos (by simp [bytesOf_length]), ← bytesOf_length a, List.take_left, List.drop_left, strOfNums_bytesOf]
theorem setTail_enc : ∀ (l : List Int) (last : Int) (acc t : List Int), 0 ≤ last → catsP last l = true → setTail l.length last acc (encTail last l ++ t) = some (acc ++ l, t) := by
  intro l
  induction l with
  | nil => intro last acc t _ _; simp [setTail, encTail]
  | cons c r ih =>
    intro last acc t h0 h
    have hc := catsP_bound h c (List.mem_cons_self ..)
    have hr : catsP c r = true := by
      unfold catsP at h
      rw [if_neg (by omega), if_neg (by omega)] at h; exact h
    simp only [List.length_cons, setTail, encTail]
    rw [List.append_assoc, num_uv (by omega) (by omega)]
    simp only [Option.bind_some]
    rw [if_neg (by omega), show last + (c - last) = c by omega, ih c _ t (by omega) hr]
    simp
theorem setP_enc {l : List Int} (h : catsP 0 l = true) (h64 : l.length ≤ 64) (t : List Int) : setP (encSet l ++ t) = some (l, t) := by
  unfold setP encSet
  rw [List.append_assoc, num_uv (by omega) (by omega)]
  simp only [Option.bind_some, Int.toNat_natCast]
  rw [if_neg (by omega), setTail_enc l 0 [] t (by omega) h]; rfl
theorem cellsP_enc : ∀ (l acc : List ByteArray) (t : List Int), (∀ c ∈ l, c.size ≤ 256) → cellsP l.length acc (txs l ++ t) = some (acc ++ l, t) := by
  intro l
  induction l with
  | nil => intro acc t _; simp [cellsP, txs]
  | cons c r ih =>
    intro acc t h
    have hc := h c (List.mem_cons_self ..)
    simp only [List.length_cons, cellsP, txs, List.flatMap_cons]
    rw [List.append_assoc, txt_tx (by omega)]
    simp only [Option.bind_some]
    have := ih (acc ++ [c]) t (fun x hx => h x (List.mem_cons_of_mem _ hx))
    simp only [txs] at this
    rw [this]; simp
theorem rowP_enc {a0 : ByteArray} {l1 : List ByteArray} {l2 l3 : List Int} {a4 : Int} (h : okRow a0 l1 l2 l3 a4 = true) (t : List Int) : rowP (encRow a0 l1 l2 l3 a4 ++ t) = some (a0, l1, l2, l3, a4, t) := by
  have h' := h
  unfold okRow okL at h
  simp only [Bool.and_eq_true, decide_eq_true_eq, List.all_eq_true] at h
  obtain ⟨⟨⟨⟨⟨⟨h1, h2⟩, h3⟩, h4⟩, ⟨⟨h5, h6⟩, h7⟩, h8⟩, h9⟩, h10⟩ := h
  unfold rowP encRow rowTail
  simp only [List.append_assoc]
  rw [txt_tx (by omega)]
  simp only [Option.bind_some]
  rw [num_uv (by omega) (by omega)]
  simp only [Option.bind_some, Int.toNat_natCast]
  rw [if_neg (by omega), cellsP_enc l1 [] _ h4]
  simp only [Option.bind_some, List.nil_append]
  unfold labP
  rw [setP_enc h7 h5]
  simp only [Option.bind_some]
  rw [setP_enc h8 h6]
  simp only [Option.bind_some]
  rw [num_uv (by omega) (by omega)]
  simp only [Option.bind_some]
  rw [show a4 + 1 - 1 = a4 by omega, if_pos h']
end Go.Proofs.Ythphoifaingbkaa.Sem
