/- slices.Insert of one int into a row that is the call's own. -/
import Derived.Test.YtpidbaaojgdpmaaIns
import Derived.Test.YtpidbaaojgdpmaaSetOf
namespace Go.Proofs.Ytpidbaaojgdpmaa.SetW
open Go.RowKit Go.Sort Go.Proofs.YtpidbaaojgdpmaaW.PrintWords
set_option linter.unusedVariables false
set_option linter.unusedSimpArgs false
def ei : Int → Value := Value.int .i64
theorem ei_one (l : List Int) : ∀ v ∈ l.map ei, v.oneCell' = true := by
  intro v hv
  obtain ⟨x, _, rfl⟩ := List.mem_map.1 hv
  rfl
theorem grown_set {w w1 : World} {g : Nat} (h : w.grownBy w1 (some g)) (o : Nat) (vs : List Value) : w.grownBy (w1.setCells g o vs) (some g) := by
  obtain ⟨h1, h2, h3, h4⟩ := setCells_same g vs o w1
  exact ⟨h1.trans h.os, h2.trans h.tape, h3.trans h.output, by rw [h4]; exact h.size, fun k hk hne => (setCells_far vs o k (fun e => hne (by rw [e]))).trans (h.block k hk hne)⟩
theorem grown_set_new {w w1 : World} {g : Nat} {row : Option Nat} (h : w.grownBy w1 row) (hg : w.heap.size ≤ g) (o : Nat) (vs : List Value) : w.grownBy (w1.setCells g o vs) row := by
  obtain ⟨h1, h2, h3, h4⟩ := setCells_same g vs o w1
  exact ⟨h1.trans h.os, h2.trans h.tape, h3.trans h.output, by rw [h4]; exact h.size, fun k hk hne => (setCells_far vs o k (by omega)).trans (h.block k hk hne)⟩
theorem grown_refl (w : World) (row : Option Nat) : w.grownBy w row := ⟨rfl, rfl, rfl, Nat.le_refl _, fun _ _ _ => rfl⟩
theorem grown_drew (w : World) (row : Option Nat) : w.grownBy w.drew row := ⟨rfl, rfl, rfl, Nat.le_refl _, fun _ _ _ => rfl⟩
theorem zc_size (n : Nat) : (Builtin.zeroCells (Value.int .i64 0).cells n).size = n := by rw [size_zeroCells]; exact Nat.mul_one n

theorem lst_shift (L R rest : List Value) (x : Value) (i n : Nat) (hn : L.length = n) (hi : i < n) :
    (((L ++ R).take (i + 1) ++ L.drop i ++ rest).take i ++ [x] ++ ((L ++ R).take (i + 1) ++ L.drop i ++ rest).drop (i + 1)).take (n + 1) = L.take i ++ x :: L.drop i := by
  have h1 : ((L ++ R).take (i + 1) ++ L.drop i ++ rest).take i = L.take i := by
    rw [List.append_assoc, List.take_append_of_le_length (by simp; omega), List.take_take, Nat.min_eq_left (by omega), List.take_append_of_le_length (by omega)]
  have h2 : ((L ++ R).take (i + 1) ++ L.drop i ++ rest).drop (i + 1) = L.drop i ++ rest := by
    rw [List.append_assoc, List.drop_left' (by simp; omega)]
  rw [h1, h2, show L.take i ++ [x] ++ (L.drop i ++ rest) = (L.take i ++ x :: L.drop i) ++ rest by simp, List.take_left' (by simp; omega)]
theorem lst_grow (L C0 r1 r2 : List Value) (x : Value) (i n : Nat) (hn : L.length = n) (hi : i < n) (h0 : C0.take i = L.take i) (hl : i ≤ C0.length) :
    ((C0.take i ++ [x] ++ r1).take (i + 1) ++ L.drop i ++ r2).take (n + 1) = L.take i ++ x :: L.drop i := by
  have h1 : (C0.take i ++ [x] ++ r1).take (i + 1) = L.take i ++ [x] := by
    rw [List.take_left' (by simp; omega), h0]
  rw [h1, show L.take i ++ [x] ++ L.drop i ++ r2 = (L.take i ++ x :: L.drop i) ++ r2 by simp, List.take_left' (by simp; omega)]
def InsPost (w : World) (base : Nat) (v : Value) (l : List Int) (i : Nat) (x : Int) (e : Ending) (w' : World) : Prop :=
  ∃ v', e = .returned v' ∧ w'.ownsRow base 3 1 v' (l.length + 1) ((l.take i ++ x :: l.drop i).map ei) ∧ w.grownBy w' v.ownBlock ∧ (v'.ownBlock = v.ownBlock ∨ ∃ b, v'.ownBlock = some b ∧ w.heap.size ≤ b)

theorem ins_end_grow (w : World) (base : Nat) (A : Option Addr) (c : Nat) (l : List Int) (x : Int) (vb : Nat) (hr : ∀ a, A = some a → ∀ j v, (l.map ei)[j]? = some v → w.cell? (a.add j) = some v) (hA : A = none → l.length = 0) (hnc : l.length ≤ c) (hvb : w.heap[vb]? = some (.cells #[.int .i64 x] 3 (0, 0))) (hbase : base ≤ w.heap.size) (hl : (l.length + 1) * 8 ≤ 140737488355328) (hroom : c < l.length + 1) :
    Calls Try.prog 49 #[.slice A l.length c, .int .i64 (l.length : Int), .slice (some ⟨vb, 0, none⟩) 1 1] w (InsPost w base (.slice A l.length c) l l.length x) := by
  refine (Any2.slices_Insert_int_end_grow Try.laysNm221 A l.length c vb 0 1 1 (l.map ei) [.int .i64 x] w (by decide) hnc hroom hl (by simp) rfl hA hr (fun j v hj => ?_) (by simp [Value.oneCell'])).mono ?_
  · rw [blk_cell hvb]; simpa using hj
  rintro e w' ⟨rfl, rfl⟩
  have hge := grownCap_ge w (l.length + 1) c (Try.laysNm221_ren.t 3)
  have hle := grownCap_le_maxLen w (l.length + 1) c (Try.laysNm221_ren.t 3) (by simp only [maxLen]; omega)
  refine ⟨_, rfl, ⟨by simp, .inr ⟨w.heap.size, _, _, rfl, hbase, heap_alloc_new w.drew _, hge, hle, ?_, ?_⟩⟩, ?_, .inr ⟨_, rfl, Nat.le_refl _⟩⟩
  · simp only [Array.size_append, zc_size, List.size_toArray, List.length_append, List.length_map, List.length_cons, List.length_nil]
    show l.length + (0 + 1) + (grownCap w (l.length + 1) c (Try.laysNm221_ren.t 3) - (l.length + 1)) = _ * 1
    omega
  · rw [Nat.mul_one, Array.toList_append, List.toList_toArray, List.take_left' (by simp)]
    simp [ei]
  · exact ⟨rfl, rfl, rfl, by show w.heap.size ≤ (w.heap.push _).size; simp, fun k hk _ => by
      show (w.drew.alloc _).heap[k]? = _
      rw [World.alloc]
      show (w.heap.push _)[k]? = _
      rw [Array.getElem?_push, if_neg (by omega)]⟩

theorem ins_row (w : World) (base : Nat) (v : Value) (l : List Int) (i : Nat) (x : Int) (vb : Nat) (ho : w.ownsRow base 3 1 v l.length (l.map ei)) (hi : i ≤ l.length) (hvb : w.heap[vb]? = some (.cells #[.int .i64 x] 3 (0, 0))) (hne : some vb ≠ v.ownBlock) (hbase : base ≤ w.heap.size) (hl : (l.length + 1) * 8 ≤ 140737488355328) :
    Calls Try.prog 49 #[v, .int .i64 (i : Int), .slice (some ⟨vb, 0, none⟩) 1 1] w (InsPost w base v l i x) := by
  rcases id ho.2 with ⟨rfl, hn⟩ | ⟨g, cap, cur, rfl, hb, hg, hnc, hcm, hcs, ht⟩
  · obtain rfl : l = [] := List.eq_nil_of_length_eq_zero hn
    obtain rfl : i = 0 := by simpa using hi
    exact ins_end_grow w base none 0 [] x vb (fun a h => by cases h) (fun _ => rfl) (Nat.le_refl _) hvb hbase hl (by simp)
  · rw [Nat.mul_one] at hcs ht
    have hcells : ∀ j v, (l.map ei)[j]? = some v → w.cell? ⟨g, 0 + j, none⟩ = some v := by
      intro j v hj
      have hj2 : j < l.length := by
        have := (List.getElem?_eq_some_iff.1 hj).1
        simpa using this
      rw [blk_cell hg, Nat.zero_add, ← Array.getElem?_toList, ← hj, ← ht, List.getElem?_take_of_lt hj2]
    have hsome : ∀ j, j < cap → (w.cell? ⟨g, 0 + j, none⟩).isSome = true := by
      intro j hj
      rw [blk_cell hg, Nat.zero_add, Array.getElem?_eq_getElem (by omega)]
      rfl
    have hvs : ∀ j v, ([.int .i64 x] : List Value)[j]? = some v → w.cell? ⟨vb, 0 + j, none⟩ = some v := by
      intro j v hj
      rw [blk_cell hvb, Nat.zero_add]
      simpa using hj
    have h63 : cap ≤ 9223372036854775807 := hcm
    have hvg : vb ≠ g := fun e => hne (by rw [e]; rfl)
    by_cases hroom : l.length + 1 ≤ cap
    · by_cases hin : i < l.length
      · refine (Any2.slices_Insert_int_shift Try.laysNm221 g 0 l.length cap i vb 0 1 1 (l.map ei) [.int .i64 x] w hin (by decide) hroom h63 hvg (by simp) rfl hcells (fun j hj => hsome j (by omega)) (fun j _ => blk_frozen hg _) hvs (ei_one l) (by simp [Value.oneCell']) 3 3 1 cap (by simp [World.shape?, hvb]) (by simp [World.shape?, hg, hcs]) (by omega) (blk_frozen hvb _) (blk_frozen hvb _)).mono ?_
        rintro e w' ⟨rfl, rfl⟩
        have hg1 : w.drew.heap[g]? = some (.cells cur 3 (0, 0)) := hg
        obtain ⟨cur1, h1, h2, h3⟩ := setCells_row ((l.map ei).drop i) (0 + (i + 1)) w.drew cur hg1 (by simp; omega)
        obtain ⟨cur2, h4, h5, h6⟩ := setCells_row [.int .i64 x] (0 + i) _ cur1 h1 (by simp; omega)
        refine ⟨_, rfl, ⟨by simp; omega, .inr ⟨g, cap, cur2, rfl, hb, h4, hroom, hcm, by omega, ?_⟩⟩, grown_set (grown_set (grown_drew w _) _ _) _ _, .inl rfl⟩
        rw [Nat.mul_one, h6, h3]
        have hlc : l.length ≤ cur.toList.length := by simp; omega
        have ht1 : cur.toList = l.map ei ++ cur.toList.drop l.length := by rw [← ht, List.take_append_drop]
        rw [ht1, Nat.zero_add, Nat.zero_add, show i + ([Value.int IntKind.i64 x] : List Value).length = i + 1 from rfl, lst_shift (l.map ei) _ _ _ i l.length (by simp) hin]
        simp [ei]
      · obtain rfl : i = l.length := by omega
        refine (Any2.slices_Insert_int_end_room Try.laysNm221 g 0 l.length cap vb 0 1 1 [.int .i64 x] w (by decide) hroom h63 rfl (fun j hj => by have := hsome (l.length + j) (by omega); simpa using this) (fun j _ => blk_frozen hg _) hvs (by simp [Value.oneCell'])).mono ?_
        rintro e w' ⟨rfl, rfl⟩
        obtain ⟨cur1, h1, h2, h3⟩ := setCells_row [.int .i64 x] (0 + l.length) w cur hg (by simp; omega)
        refine ⟨_, rfl, ⟨by simp, .inr ⟨g, cap, cur1, rfl, hb, h1, hroom, hcm, by omega, ?_⟩⟩, grown_set (grown_refl w _) _ _, .inl rfl⟩
        rw [Nat.mul_one, h3, Nat.zero_add, ht, List.take_left' (by simp)]
        simp [ei]
    · by_cases hin : i < l.length
      · refine (Any2.slices_Insert_int_grow Try.laysNm221 g 0 l.length cap i vb 0 1 1 (l.map ei) [.int .i64 x] w hin (by decide) hnc (by omega) hl (by simp) rfl hcells hvs (ei_one l) (by simp [Value.oneCell'])).mono ?_
        rintro e w' ⟨rfl, rfl⟩
        have hge := grownCap_ge w (l.length + 1) cap (Try.laysNm221_ren.t 3)
        have hle := grownCap_le_maxLen w (l.length + 1) cap (Try.laysNm221_ren.t 3) (by simp only [maxLen]; omega)
        generalize grownCap w (l.length + 1) cap (Try.laysNm221_ren.t 3) = gc at hge hle ⊢
        generalize hO : (((l.map ei).take i).toArray ++ Builtin.zeroCells (Value.int .i64 0).cells (l.length + 1 - i) ++ Builtin.zeroCells (Value.int .i64 0).cells (gc - (l.length + 1))) = O
        have hOs : O.size = gc := by
          rw [← hO]
          simp only [Array.size_append, zc_size, List.size_toArray, List.length_take, List.length_map]
          omega
        have hOt : O.toList.take i = (l.map ei).take i := by
          rw [← hO, Array.toList_append, Array.toList_append, List.toList_toArray, List.append_assoc, List.take_left' (by simp; omega)]
        have hG0 : w.grownBy (w.alloc (.cells O (Try.laysNm221_ren.t 3))).drew (Value.slice (some ⟨g, 0, none⟩) l.length cap).ownBlock := ⟨rfl, rfl, rfl, by show w.heap.size ≤ (w.heap.push _).size; simp, fun k hk _ => by
          show (w.heap.push _)[k]? = _
          rw [Array.getElem?_push, if_neg (by omega)]⟩
        obtain ⟨cur1, h1, h2, h3⟩ := setCells_row [.int .i64 x] i (w.alloc (.cells O (Try.laysNm221_ren.t 3))).drew O (heap_alloc_new w _) (by simp; omega)
        obtain ⟨cur2, h4, h5, h6⟩ := setCells_row ((l.map ei).drop i) (i + 1) (((w.alloc (.cells O (Try.laysNm221_ren.t 3))).drew.setCells w.heap.size i [.int .i64 x]).drew) cur1 h1 (by simp; omega)
        refine ⟨_, rfl, ⟨by simp; omega, .inr ⟨w.heap.size, gc, cur2, rfl, hbase, h4, hge, hle, by omega, ?_⟩⟩, grown_set_new ((grown_set_new hG0 (Nat.le_refl _) _ _).trans (grown_drew _ _)) (Nat.le_refl _) _ _, .inr ⟨_, rfl, Nat.le_refl _⟩⟩
        rw [Nat.mul_one, h6, h3, lst_grow (l.map ei) O.toList _ _ _ i l.length (by simp) hin hOt (by simp; omega)]
        simp [ei]
      · obtain rfl : i = l.length := by omega
        refine ins_end_grow w base _ cap l x vb (fun a ha j v hj => ?_) (fun h => by cases h) hnc hvb hbase hl (by omega)
        obtain rfl := (Option.some.inj ha).symm
        have := hcells j v hj
        rw [Nat.zero_add] at this
        rw [show (⟨g, 0, none⟩ : Addr).add j = ⟨g, 0 + j, none⟩ from Go.WideShapes.add_plain _ _ _, Nat.zero_add]
        exact this
end Go.Proofs.Ytpidbaaojgdpmaa.SetW
