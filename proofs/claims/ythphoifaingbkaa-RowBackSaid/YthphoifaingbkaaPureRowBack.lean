/- The pure statement of RowBack: what is written is read as it was. -/
import Derived.Test.YthphoifaingbkaaStRowBack
import Derived.Test.YthphoifaingbkaaRowSem2
import Derived.Test.YthphoifaingbkaaRowRd3
namespace Go.Proofs.Ythphoifaingbkaa
open Go.RowKit Go.Proofs.YthphoifaingbkaaW.PrintWords Go.Proofs.Ythphoifaingbkaa.PC Go.Proofs.Ythphoifaingbkaa.Sem Go.Proofs.Ythphoifaingbkaa.LabelB
set_option linter.unusedVariables false
theorem bytes_size (l : List Int) : (strOfNums l).size = l.length := by
  show (strOfNums l).data.size = _
  rw [← Array.length_toList, strOfNums_data, List.length_map]
theorem encRow_len {a0 : ByteArray} {l1 : List ByteArray} {l2 l3 : List Int} {a4 : Int} (h : okRow a0 l1 l2 l3 a4 = true) : (encRow a0 l1 l2 l3 a4).length ≤ 10000 := by
  unfold okRow okL at h
  simp only [Bool.and_eq_true, decide_eq_true_eq, List.all_eq_true] at h
  obtain ⟨⟨⟨⟨⟨⟨h1, h2⟩, h3⟩, h4⟩, ⟨⟨h5, h6⟩, h7⟩, h8⟩, h9⟩, h10⟩ := h
  have e1 := tx_len a0 (by omega)
  have e2 := uv_len 0 (l1.length : Int) (by simp; omega)
  have e3 := encSet_len h7 h5
  have e4 := encSet_len h8 h6
  have e5 := uv_len 0 (a4 + 1) (by simp; omega)
  have e6 : ∀ l : List ByteArray, (∀ c ∈ l, c.size ≤ 256) → (txs l).length ≤ 261 * l.length := by
    intro l
    induction l with
    | nil => intro _; simp [txs]
    | cons c r ih =>
      intro hc
      have i1 := ih (fun x hx => hc x (List.mem_cons_of_mem _ hx))
      have i2 := hc c (List.mem_cons_self ..)
      have i3 := tx_len c (by omega)
      simp only [txs, List.flatMap_cons, List.length_append, List.length_cons] at i1 ⊢
      omega
  have e7 := e6 l1 h4
  simp only [encRow, rowTail, List.length_append]
  omega
theorem Pure.RowBack : RowBack.Pure := by
  intro a0 a1 a2 a3 a4 tail _ hl1 _ hl2 _ hl3 _ _ ht
  refine ⟨1000 + a1.length + a2.length + a3.length, ?_⟩
  generalize hk : 1000 + a1.length + a2.length + a3.length = k
  have hA := may_eq a0 a1 a2 a3 a4 (by omega) k (by omega) (by omega)
  have hw := awake_eq k (by omega)
  unfold cloisterlaw11_RowBack.f
  rw [rbytes_eq _ _ _ _ _ _ (by omega), Option.bind_some]
  cases hoa : okRow a0 a1 a2 a3 a4 with
  | false =>
    simp [hA, hw, hoa]
  | true =>
    have hlen := encRow_len hoa
    have hsz := bytes_size (encRow a0 a1 a2 a3 a4)
    simp only [if_true]
    rw [if_pos (by omega)]
    have hb : bytesOf (strOfNums (encRow a0 a1 a2 a3 a4) ++ tail) = encRow a0 a1 a2 a3 a4 ++ bytesOf tail := by rw [bytesOf_append, bytesOf_strOfNums (encRow_byte hoa)]
    have hs2 : (strOfNums (encRow a0 a1 a2 a3 a4) ++ tail).size = (encRow a0 a1 a2 a3 a4).length + tail.size := by rw [ByteArray.size_append, hsz]
    unfold row_Of.f RowOf.ofG
    rw [if_pos (by omega)]
    rcases ofF_eq (strOfNums (encRow a0 a1 a2 a3 a4) ++ tail) (by omega) k (by omega) with ⟨key, cl, S, I, who, b, e1, hb1, e2⟩ | ⟨e1, _⟩
    · rw [hb, rowP_enc hoa] at e1
      simp only [Option.some.injEq, Prod.mk.injEq] at e1
      obtain ⟨rfl, rfl, rfl, rfl, rfl, e3⟩ := e1
      have hbl : b = (encRow a0 a1 a2 a3 a4).length := by
        have := congrArg List.length e3
        rw [List.length_drop, List.length_append, bytesOf_length] at this
        omega
      rw [e2, Option.bind_some]
      simp only [if_true]
      rw [if_pos (by rw [hsz, hbl]), rsame_eq _ _ _ _ _ _ _ _ _ _ (by omega) (by omega) (by omega) k (by omega) (by omega) (by omega)]
      simp [hw]
    · rw [hb, rowP_enc hoa] at e1
      cases e1
end Go.Proofs.Ythphoifaingbkaa
