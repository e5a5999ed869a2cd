/- Plain lemmas on texts as lists of bytes, no program in them. -/
import Derived.Test.YtkaacdfikaggfaaWWords
import Derived.Test.YtkaacdfikaggfaaWMore
import Derived.Test.YtkaacdfikaggfaaWLast
namespace Go.Proofs.Ytkaacdfikaggfaa.Bs
open Go.RowKit Go.Proofs.YtkaacdfikaggfaaW.PrintWords
set_option linter.unusedVariables false

theorem w64 {x : Int} (h : -9223372036854775808 ≤ x ∧ x ≤ 9223372036854775807) : wrap64 x = x := by unfold wrap64; omega
theorem w64s {i n : Nat} (h : i < n) (hn : n ≤ 9223372036854775807) : wrap64 ((i : Int) + 1) = ((i + 1 : Nat) : Int) := by unfold wrap64; omega
theorem rd_nat {l : List Int} {i : Nat} (h : i < l.length) : rd l (i : Int) = l[i] := by simp [rd, List.getD_eq_getElem?_getD, List.getElem?_eq_getElem h]
theorem rdOf_nat {α : Type} {d : α} {l : List α} {i : Nat} (h : i < l.length) : rdOf d l (i : Int) = l[i] := by simp [rdOf, List.getD_eq_getElem?_getD, List.getElem?_eq_getElem h]
theorem bytesOf_append (a b : ByteArray) : bytesOf (a ++ b) = bytesOf a ++ bytesOf b := by
  show ((a ++ b).data.toList.map _) = _
  rw [ByteArray.data_append]; simp [bytesOf]
theorem bytesOf_inj {a b : ByteArray} (h : bytesOf a = bytesOf b) : a = b := by
  have h1 : a.data.toList = b.data.toList := by
    refine List.map_inj_right (f := fun b : UInt8 => (b.toNat : Int)) (fun x y hxy => ?_) |>.1 h
    exact UInt8.toNat_inj.1 (by exact_mod_cast hxy)
  cases a; cases b; simp_all
def isByte (x : Int) : Prop := 0 ≤ x ∧ x ≤ 255
theorem bytesOf_strOfNums {l : List Int} (h : ∀ x ∈ l, isByte x) : bytesOf (strOfNums l) = l := by
  unfold bytesOf
  rw [strOfNums_data, List.map_map]
  conv => rhs; rw [← List.map_id l]
  refine List.map_congr_left fun x hx => ?_
  have := h x hx
  unfold isByte at this
  simp only [Function.comp, id]
  rw [UInt8.toNat_ofNat_of_lt' (by simp [UInt8.size]; omega)]; omega
theorem bytesOf_byte (a : ByteArray) : ∀ x ∈ bytesOf a, isByte x := by
  intro x hx
  obtain ⟨b, _, rfl⟩ := List.mem_map.1 hx
  have := b.toNat_lt
  unfold isByte; omega
theorem strOfNums_bytesOf (a : ByteArray) : strOfNums (bytesOf a) = a := bytesOf_inj (bytesOf_strOfNums (bytesOf_byte a))
theorem toList_iff {a b : ByteArray} : a.toList = b.toList ↔ a = b := by
  rw [ByteArray.toList_eq, ByteArray.toList_eq]
  exact ⟨fun h => by cases a; cases b; simp_all, fun h => by rw [h]⟩
theorem toList_beq (a b : ByteArray) : (a.toList == b.toList) = decide (a = b) := by
  by_cases h : a = b
  · simp [h]
  · simp [h, toList_iff]
theorem drop_bt {s : ByteArray} {a : Nat} (h : a < s.size) : (bytesOf s).drop a = bt s (a : Int) :: (bytesOf s).drop (a + 1) := by
  have hl : a < (bytesOf s).length := by rw [bytesOf_length]; exact h
  rw [List.drop_eq_getElem_cons hl]
  congr 1
  simp only [bytesOf, List.getElem_map, bt, Int.toNat_natCast]
  rw [dif_pos h]; rfl
theorem drop_end {s : ByteArray} {a : Nat} (h : s.size ≤ a) : (bytesOf s).drop a = [] := List.drop_of_length_le (by rw [bytesOf_length]; exact h)
theorem bytesOf_mid (s : ByteArray) (a n : Nat) : bytesOf (s.extract a (a + n)) = ((bytesOf s).drop a).take n := by
  show ((s.extract a (a + n)).data.toList.map _) = _
  rw [ByteArray.data_extract]
  simp [bytesOf, List.map_take, List.map_drop]
theorem bytesOf_slice (s : ByteArray) (a b : Nat) (h : a ≤ b) : bytesOf (s.extract a b) = ((bytesOf s).drop a).take (b - a) := by
  have := bytesOf_mid s a (b - a)
  rwa [show a + (b - a) = b by omega] at this
theorem bytes_tail (s : ByteArray) (a : Nat) : bytesOf (s.extract a s.size) = (bytesOf s).drop a := by
  show ((s.extract a s.size).data.toList.map _) = _
  rw [ByteArray.data_extract]
  simp only [bytesOf, Array.toList_extract, List.map_take, List.map_drop, List.extract]
  rw [List.take_of_length_le (by simp)]
theorem tail_size (s : ByteArray) (a : Nat) : (s.extract a s.size).size = s.size - a := by rw [ByteArray.size_extract]; omega
theorem strOfNums_inj {l m : List Int} (hl : ∀ x ∈ l, isByte x) (hm : ∀ x ∈ m, isByte x) (h : strOfNums l = strOfNums m) : l = m := by
  rw [← bytesOf_strOfNums hl, h, bytesOf_strOfNums hm]
theorem bt_byte (s : ByteArray) (i : Int) : isByte (bt s i) := bt_range s i
theorem size_strOfNums (l : List Int) : (strOfNums l).size = l.length := by
  show (strOfNums l).data.size = _
  rw [← Array.length_toList, strOfNums_data]; simp
theorem bt_get {s : ByteArray} {i : Nat} (h : i < s.size) : bt s (i : Int) = ((bytesOf s)[i]'(by rw [bytesOf_length]; exact h)) := by
  have := drop_bt h
  rw [List.drop_eq_getElem_cons (by rw [bytesOf_length]; exact h)] at this
  exact (List.cons.inj this).1.symm
/-- Every byte: by trying all. -/
theorem all_bytes {p : Int → Prop} [DecidablePred p] (h : ∀ m : Fin 256, p (m.val : Int)) {c : Int} (hc : isByte c) : p c := by
  have := h ⟨c.toNat, by unfold isByte at hc; omega⟩
  simp only at this
  rwa [show ((c.toNat : Nat) : Int) = c by unfold isByte at hc; omega] at this
end Go.Proofs.Ytkaacdfikaggfaa.Bs
