/- Plain lemmas: bytes as numbers, a number's bytes, what two that begin alike have in common. -/
import Derived.Test.YthphoifaingbkaaLabelB
namespace Go.Proofs.Ythphoifaingbkaa.Sem
open Go.RowKit Go.Proofs.YthphoifaingbkaaW.PrintWords Go.Proofs.Ythphoifaingbkaa.LabelB
set_option linter.unusedVariables false

theorem w64 {x : Int} (h : -9223372036854775808 ≤ x ∧ x ≤ 9223372036854775807) : wrap64 x = x := by unfold wrap64; omega
theorem w64s {i n : Nat} (h : i < n) (hn : n ≤ 9223372036854775807) : wrap64 ((i : Int) + 1) = ((i + 1 : Nat) : Int) := by unfold wrap64; omega
theorem rd_nat {l : List Int} {i : Nat} (h : i < l.length) : rd l (i : Int) = l[i] := by simp [rd, List.getD_eq_getElem?_getD, List.getElem?_eq_getElem h]
theorem rdOf_nat {α : Type} {d : α} {l : List α} {i : Nat} (h : i < l.length) : rdOf d l (i : Int) = l[i] := by simp [rdOf, List.getD_eq_getElem?_getD, List.getElem?_eq_getElem h]

theorem bytesOf_append (a b : ByteArray) : bytesOf (a ++ b) = bytesOf a ++ bytesOf b := by
  show ((a ++ b).data.toList.map _) = _
  rw [ByteArray.data_append]; simp [bytesOf]
theorem bytesOf_inj {a b : ByteArray} (h : bytesOf a = bytesOf b) : a = b := by
  have h1 : a.data.toList = b.data.toList := by
    refine List.map_inj_right (f := fun b : UInt8 => (b.toNat : Int)) (fun x y hxy => ?_) |>.1 h
    exact UInt8.toNat_inj.1 (by exact_mod_cast hxy)
  cases a; cases b; simp_all
def isByte (x : Int) : Prop := 0 ≤ x ∧ x ≤ 255
theorem bytesOf_strOfNums {l : List Int} (h : ∀ x ∈ l, isByte x) : bytesOf (strOfNums l) = l := by
  unfold bytesOf
  rw [strOfNums_data, List.map_map]
  conv => rhs; rw [← List.map_id l]
  refine List.map_congr_left fun x hx => ?_
  have := h x hx
  unfold isByte at this
  simp only [Function.comp, id]
  rw [UInt8.toNat_ofNat_of_lt' (by simp [UInt8.size]; omega)]; omega
theorem bytesOf_byte (a : ByteArray) : ∀ x ∈ bytesOf a, isByte x := by
  intro x hx
  obtain ⟨b, _, rfl⟩ := List.mem_map.1 hx
  have := b.toNat_lt
  unfold isByte; omega
theorem toList_iff {a b : ByteArray} : a.toList = b.toList ↔ a = b := by
  rw [ByteArray.toList_eq, ByteArray.toList_eq]
  exact ⟨fun h => by cases a; cases b; simp_all, fun h => by rw [h]⟩
theorem toList_beq (a b : ByteArray) : (a.toList == b.toList) = decide (a = b) := by
  by_cases h : a = b
  · simp [h]
  · simp [h, toList_iff]

theorem or128 (n : Int) : Go.bits .or .u8 (n % 256) 128 = n % 128 + 128 := by
  have h : ∀ m : Fin 256, Go.bits .or .u8 (m.val : Int) 128 = (m.val : Int) % 128 + 128 := by decide +kernel
  have h1 := h ⟨(n % 256).toNat, by omega⟩
  simp only at h1
  rw [show (((n % 256).toNat : Nat) : Int) = n % 256 by omega] at h1
  rw [h1]; omega
theorem uv_big {n : Int} (h : n ≥ 128) : uv n = (n % 128 + 128) :: uv (n / 128) := by rw [uv, dif_pos h, or128]
theorem uv_small {n : Int} (h0 : 0 ≤ n) (h : n < 128) : uv n = [n] := by rw [uv, dif_neg (by omega)]; congr 1; omega
theorem uv_byte (n : Int) (h0 : 0 ≤ n) : ∀ x ∈ uv n, isByte x := by
  by_cases h : n ≥ 128
  · rw [uv_big h]
    intro x hx
    rcases List.mem_cons.1 hx with rfl | hx
    · unfold isByte; omega
    · exact uv_byte (n / 128) (by omega) x hx
  · rw [uv_small h0 (by omega)]
    intro x hx
    obtain rfl := List.mem_singleton.1 hx
    unfold isByte; omega
termination_by n.toNat
decreasing_by omega
theorem uv_inj {n m : Int} (hn : 0 ≤ n) (hm : 0 ≤ m) {s t : List Int} (h : uv n ++ s = uv m ++ t) : n = m ∧ s = t := by
  by_cases a : n ≥ 128 <;> by_cases b : m ≥ 128
  · rw [uv_big a, uv_big b, List.cons_append, List.cons_append] at h
    injection h with h1 h2
    obtain ⟨h3, h4⟩ := uv_inj (n := n / 128) (m := m / 128) (by omega) (by omega) h2
    exact ⟨by omega, h4⟩
  · rw [uv_big a, uv_small hm (by omega), List.cons_append, List.cons_append] at h
    injection h with h1 h2
    omega
  · rw [uv_small hn (by omega), uv_big b, List.cons_append, List.cons_append] at h
    injection h with h1 h2
    omega
  · rw [uv_small hn (by omega), uv_small hm (by omega), List.cons_append, List.cons_append] at h
    injection h with h1 h2
    exact ⟨h1, h2⟩
termination_by n.toNat
decreasing_by omega
theorem uv_pos (n : Int) : 0 < (uv n).length := by rw [uv]; split <;> simp

/-- A text's bytes: how many, and they. -/
def tx (a : ByteArray) : List Int := uv a.size ++ bytesOf a
theorem append_len {α : Type} {a b s t : List α} (hl : a.length = b.length) (h : a ++ s = b ++ t) : a = b ∧ s = t := List.append_inj h hl
theorem tx_inj {a b : ByteArray} {s t : List Int} (h : tx a ++ s = tx b ++ t) : a = b ∧ s = t := by
  unfold tx at h
  rw [List.append_assoc, List.append_assoc] at h
  obtain ⟨h1, h2⟩ := uv_inj (by omega) (by omega) h
  obtain ⟨h3, h4⟩ := append_len (by rw [bytesOf_length, bytesOf_length]; omega) h2
  exact ⟨bytesOf_inj h3, h4⟩
def txs (l : List ByteArray) : List Int := l.flatMap tx
theorem txs_inj {a b : List ByteArray} (hl : a.length = b.length) {s t : List Int} (h : txs a ++ s = txs b ++ t) : a = b ∧ s = t := by
  induction a generalizing b with
  | nil =>
    obtain rfl : b = [] := List.eq_nil_of_length_eq_zero (by simpa using hl.symm)
    exact ⟨rfl, by simpa [txs] using h⟩
  | cons x a ih =>
    cases b with
    | nil => simp at hl
    | cons y b =>
      simp only [txs, List.flatMap_cons, List.append_assoc] at h
      obtain ⟨rfl, h2⟩ := tx_inj h
      obtain ⟨rfl, h3⟩ := ih (b := b) (by simpa using hl) h2
      exact ⟨rfl, h3⟩
theorem encTail_inj {a b : List Int} (hl : a.length = b.length) : ∀ {last : Int} {s t : List Int}, catsP last a = true → catsP last b = true → encTail last a ++ s = encTail last b ++ t → a = b ∧ s = t := by
  induction a generalizing b with
  | nil =>
    intro last s t _ _ h
    obtain rfl : b = [] := List.eq_nil_of_length_eq_zero (by simpa using hl.symm)
    exact ⟨rfl, by simpa [encTail] using h⟩
  | cons x a ih =>
    intro last s t ha hb h
    cases b with
    | nil => simp at hl
    | cons y b =>
      have h1 := catsP_bound ha x List.mem_cons_self
      have h2 := catsP_bound hb y List.mem_cons_self
      simp only [encTail, List.append_assoc] at h
      obtain ⟨h3, h4⟩ := uv_inj (by omega) (by omega) h
      obtain rfl : x = y := by omega
      simp only [catsP] at ha hb
      rw [if_neg (by omega), if_neg (by omega)] at ha hb
      obtain ⟨rfl, h5⟩ := ih (b := b) (by simpa using hl) ha hb h4
      exact ⟨rfl, h5⟩
theorem encSet_inj {a b : List Int} {s t : List Int} (ha : catsP 0 a = true) (hb : catsP 0 b = true) (h : encSet a ++ s = encSet b ++ t) : a = b ∧ s = t := by
  unfold encSet at h
  rw [List.append_assoc, List.append_assoc] at h
  obtain ⟨h1, h2⟩ := uv_inj (by omega) (by omega) h
  exact encTail_inj (by omega) ha hb h2
theorem encTail_byte {l : List Int} : ∀ {last : Int}, 0 ≤ last → catsP last l = true → ∀ x ∈ encTail last l, isByte x := by
  induction l with
  | nil => intro last _ _ x hx; cases hx
  | cons a r ih =>
    intro last h0 h x hx
    have hb := catsP_bound h a List.mem_cons_self
    rcases List.mem_append.1 hx with hx | hx
    · exact uv_byte _ (by omega) x hx
    · unfold catsP at h
      rw [if_neg (by omega), if_neg (by omega)] at h
      exact ih (by omega) h x hx
theorem encSet_byte {l : List Int} (h : catsP 0 l = true) : ∀ x ∈ encSet l, isByte x := by
  intro x hx
  rcases List.mem_append.1 hx with hx | hx
  · exact uv_byte _ (by omega) x hx
  · exact encTail_byte (by omega) h x hx
end Go.Proofs.Ythphoifaingbkaa.Sem
