/- A row of the call's own, written over by the library's sort, Compact or DeleteFunc: it is the call's own as before. -/
import Derived.Test.YtclhddldbfdfdaaWWords
import Derived.Sort.Row
import Derived.Sort.Grow
namespace Go.Proofs.Ytclhddldbfdfdaa.OwnPut
open Go.RowKit Go.Sort Go.Proofs.YtclhddldbfdfdaaW.PrintWords
set_option linter.unusedVariables false
variable {α : Type} [Inhabited α]
theorem put_heap (enc : α → Value) (w : World) (g q : Nat) (d : Array α) (k : Nat) (hk : k ≠ g) : (putRow enc (Sort.ahead w q) g 0 d).heap[k]? = w.heap[k]? := by
  unfold putRow mapBlock
  simp only [Array.getElem?_modify]
  rw [if_neg (Ne.symm hk)]; rfl
theorem put_at (enc : α → Value) (w : World) (g q : Nat) (d : Array α) {cur : Array Value} {e : TypeId} {fr : Nat × Nat} (h : w.heap[g]? = some (.cells cur e fr)) : (putRow enc (Sort.ahead w q) g 0 d).heap[g]? = some (.cells (putCells enc 0 d cur) e fr) := by
  unfold putRow mapBlock
  simp only [Array.getElem?_modify, if_true]
  show Option.map _ (w.heap[g]?) = _
  rw [h]; rfl
theorem put_size (enc : α → Value) (w : World) (g q : Nat) (d : Array α) : (putRow enc (Sort.ahead w q) g 0 d).heap.size = w.heap.size := by
  unfold putRow mapBlock
  simp [Sort.ahead]
theorem cells_take (enc : α → Value) (d : Array α) (cur : Array Value) (m : Nat) (hm : m ≤ d.size) (hc : d.size ≤ cur.size) : (putCells enc 0 d cur).toList.take m = (d.toList.take m).map enc := by
  apply List.ext_getElem?
  intro k
  by_cases hk : k < m
  · rw [List.getElem?_take_of_lt hk, List.getElem?_map, List.getElem?_take_of_lt hk]
    have h1 : k < d.size := by omega
    have h2 : k < cur.size := by omega
    rw [Array.getElem?_toList, Array.getElem?_toList]
    unfold putCells
    rw [Array.getElem?_mapIdx, Array.getElem?_eq_getElem h2, Array.getElem?_eq_getElem h1]
    simp only [Option.map_some, Nat.sub_zero]
    rw [if_pos ⟨Nat.zero_le _, by omega⟩, getElem!_pos d k h1]
  · rw [List.getElem?_take_eq_none (by omega), List.getElem?_map, List.getElem?_take_eq_none (by omega)]; rfl
theorem own_put {enc : α → Value} {w : World} {base g n cap : Nat} {e : TypeId} {cs : List Value} (h : w.ownsRow base e 1 (.slice (some ⟨g, 0, none⟩) n cap) n cs) (q : Nat) (d : Array α) (hd : d.size = n) (m : Nat) (hm : m ≤ n) :
    (putRow enc (Sort.ahead w q) g 0 d).ownsRow base e 1 (.slice (some ⟨g, 0, none⟩) m cap) m ((d.toList.take m).map enc) := by
  refine ⟨by simp; omega, .inr ?_⟩
  rcases h.2 with ⟨e1, _⟩ | ⟨g', cap', cur, e1, hb, hg, hn, hc, hs, ht⟩
  · cases e1
  · simp only [Value.slice.injEq, Option.some.injEq, Addr.mk.injEq, and_true, true_and] at e1
    obtain ⟨rfl, rfl⟩ := e1
    refine ⟨g, cap, putCells enc 0 d cur, rfl, hb, put_at enc w g q d hg, by omega, hc, by unfold putCells; simpa using hs, ?_⟩
    rw [Nat.mul_one]
    exact cells_take enc d cur m (by omega) (by omega)
theorem own_holds {enc : α → Value} {w : World} {base g n cap : Nat} {e : TypeId} {zs : List α} (h : w.ownsRow base e 1 (.slice (some ⟨g, 0, none⟩) n cap) n (zs.map enc)) : Holds enc w g 0 zs.toArray ∧ g < w.heap.size ∧ n ≤ cap ∧ zs.length = n ∧ base ≤ g := by
  have hl : zs.length = n := by have := h.1; simpa using this
  rcases h.2 with ⟨e1, _⟩ | ⟨g', cap', cur, e1, hb, hg, hn, hc, hs, ht⟩
  · cases e1
  · simp only [Value.slice.injEq, Option.some.injEq, Addr.mk.injEq, and_true, true_and] at e1
    obtain ⟨rfl, rfl⟩ := e1
    refine ⟨fun j hj => ?_, (Array.getElem?_eq_some_iff.1 hg).1, hn, hl, hb⟩
    have hj' : j < zs.length := by simpa using hj
    have e2 : cur[j]? = some (enc zs[j]) := by
      have := congrArg (fun l => l[j]?) ht
      simp only [Nat.mul_one] at this
      rw [List.getElem?_take_of_lt (by omega), List.getElem?_map, List.getElem?_eq_getElem hj', Array.getElem?_toList] at this
      exact this
    rw [getElem!_pos zs.toArray j hj]
    simp only [List.getElem_toArray, Nat.zero_add]
    exact ⟨by simp [World.cell?, hg, e2], by simp [World.frozen?, hg]⟩
theorem below_put {B : Nat} {w0 w : World} (h : Below B w0 w) (enc : α → Value) (g q : Nat) (d : Array α) (hg : B ≤ g) : Below B w0 (putRow enc (Sort.ahead w q) g 0 d) := by
  refine ⟨?_, ?_, ?_, by rw [put_size]; exact h.size, fun i hi => by rw [put_heap enc w g q d i (by omega)]; exact h.block i hi⟩
  · exact h.os
  · exact h.tape
  · exact h.output
theorem below_grow {B : Nat} {w0 w : World} (h : Below B w0 w) (hB : B ≤ w.heap.size) (os : Array Obj) : Below B w0 (grow w os) := by
  refine ⟨h.os, h.tape, h.output, ?_, fun i hi => ?_⟩
  · have := h.size
    show w0.heap.size ≤ (w.heap ++ os).size
    simp; omega
  · show (w.heap ++ os)[i]? = _
    rw [Array.getElem?_append_left (by omega)]
    exact h.block i hi
end Go.Proofs.Ytclhddldbfdfdaa.OwnPut
