/- awake: a set of one place, a join and a within of constants. -/
import Derived.Test.YtpidbaaojgdpmaaSetNew
namespace Go.Proofs.Ytpidbaaojgdpmaa.SetW
open Go.RowKit Go.Sort Go.Proofs.YtpidbaaojgdpmaaW.PrintWords Go.Proofs.YtpidbaaojgdpmaaW.PrintMore Go.Proofs.Ytpidbaaojgdpmaa.SetF Go.Proofs.Ytpidbaaojgdpmaa.OwnPut
set_option linter.unusedVariables false
set_option linter.unusedSimpArgs false
theorem same_123 : Pbase.cloisterref01_Same.f 10 [1, 2, 3] [1, 2, 3] = some true := by decide +kernel
theorem join_123 : joinL [3, 1] [3, 2] = [1, 2, 3] := rises_ext (joinL_rises _ _) (by unfold Rises; decide) (fun x => by rw [mem_joinL]; simp; omega)
theorem less_12 : keptL [1] [2, 1] false = [] := List.eq_nil_iff_forall_not_mem.2 fun x h => by rw [mem_less] at h; simp at h; omega
theorem at_new (w : World) : SetAt (w.alloc (boxOf 1 (.slice none 0 0))) w.heap.size w.heap.size 1 (.slice none 0 0) [] where
  box := heap_alloc_new w _
  row := own_nil _ _ _ _
  rises := List.Pairwise.nil
  fits := Nat.zero_le _
  room0 := by decide
  room1 := by decide
theorem add5 : addL 1 [] 5 = (0, [5]) := by simp [addL, insL]
theorem add6 : addL 1 [5] 6 = (2, [5]) := by simp [addL]
theorem add5_calls (w : World) : Calls Try.prog 31 #[.pointer (some ⟨w.heap.size, 0, none⟩), .int .i64 5] (w.alloc (boxOf 1 (.slice none 0 0))) fun e W' =>
    ∃ v', e = .returned (.int .i64 0) ∧ SetAt W' w.heap.size w.heap.size 1 v' [5] ∧ Below w.heap.size w W' := by
  refine (add_calls _ w.heap.size w.heap.size 1 _ [] 5 (at_new w) (by simp)).mono ?_
  rintro e W' ⟨v', he, hs, hu, _⟩
  rw [add5] at he hs
  refine ⟨v', he, hs, hu.os, hu.tape, hu.output, Nat.le_trans (by simp) hu.size, fun i hi => ?_⟩
  have hb := below_alloc (Below.refl w.heap.size w) (boxOf 1 (.slice none 0 0))
  exact (hu.block i (by simp; omega) (by omega) (by simp [Value.ownBlock])).trans (hb.block i hi)
theorem add6_calls (w W : World) (v : Value) (h : SetAt W w.heap.size w.heap.size 1 v [5]) (hb : Below w.heap.size w W) : Calls Try.prog 31 #[.pointer (some ⟨w.heap.size, 0, none⟩), .int .i64 6] W fun e W' =>
    e = .returned (.int .i64 2) ∧ Below w.heap.size w W' := by
  have hz := hb.size
  refine (add_calls _ w.heap.size w.heap.size 1 _ [5] 6 h hz).mono ?_
  rintro e W' ⟨v', he, hs, hu, _⟩
  rw [add6] at he
  refine ⟨he, hu.os.trans hb.os, hu.tape.trans hb.tape, hu.output.trans hb.output, Nat.le_trans hz hu.size, fun i hi => ?_⟩
  refine (hu.block i (by omega) (by omega) ?_).trans (hb.block i hi)
  rcases h.row.2 with ⟨rfl, _⟩ | ⟨g', cap, cur, rfl, hg', _⟩
  · simp [Value.ownBlock]
  · intro e
    have e2 : i = g' := Option.some.inj e
    omega

theorem C_lit (W : World) (g : Nat) (l : List Int) (hl : l.length ≤ 64) (h : W.heap[g]? = some (.cells (l.map ei).toArray 3 (0, 0))) : Kd.C (Kd.int .i64) W (some ⟨g, 0, none⟩) l.length l := by
  have ho : W.ownsRow 0 3 1 (.slice (some ⟨g, 0, none⟩) l.length l.length) l.length (l.map ei) := ⟨by simp, .inr ⟨g, l.length, _, rfl, Nat.zero_le _, h, Nat.le_refl _, by simp only [maxLen]; omega, by simp, by rw [Nat.mul_one, List.toList_toArray, List.take_of_length_le (by simp)]⟩⟩
  obtain ⟨A, c, e, _, hC⟩ := Kd.R_reads (R_own_int (e := 3) ho)
  injection e with e1
  exact e1 ▸ hC
theorem two_heap (w : World) (a b : Obj) : ((w.alloc a).alloc b).heap[w.heap.size]? = some a ∧ ((w.alloc a).alloc b).heap[w.heap.size + 1]? = some b := by
  refine ⟨((below_alloc (Below.refl _ (w.alloc a)) b).block w.heap.size (by simp)).trans (heap_alloc_new w a), ?_⟩
  have := heap_alloc_new (w.alloc a) b
  rwa [show (w.alloc a).heap.size = w.heap.size + 1 by simp] at this
theorem below_two (w : World) (a b : Obj) : Below w.heap.size w ((w.alloc a).alloc b) := below_alloc (below_alloc (Below.refl _ _) a) b
theorem join_here (w3 : World) : Calls Try.prog 10 #[.slice (some ⟨w3.heap.size, 0, none⟩) 2 2, .slice (some ⟨w3.heap.size + 1, 0, none⟩) 2 2] ((w3.alloc (.cells #[.int .i64 3, .int .i64 1] 3)).alloc (.cells #[.int .i64 3, .int .i64 2] 3)) fun e w' =>
    ∃ A c, e = .returned (.slice A 3 c) ∧ Kd.C (Kd.int .i64) w' A 3 [1, 2, 3] ∧ 3 ≤ c ∧ Below w3.heap.size w3 w' := by
  have h2 := two_heap w3 (.cells #[.int .i64 3, .int .i64 1] 3) (.cells #[.int .i64 3, .int .i64 2] 3)
  refine (join_calls (some ⟨w3.heap.size, 0, none⟩) 2 [3, 1] (some ⟨w3.heap.size + 1, 0, none⟩) 2 [3, 2] _ (C_lit _ _ [3, 1] (by simp) h2.1) (C_lit _ _ [3, 2] (by simp) h2.2) (by simp)).mono ?_
  rintro e w' ⟨v, rfl, hR, hb⟩
  rw [join_123] at hR
  obtain ⟨A, c, rfl, hc, hC⟩ := Kd.R_reads hR
  exact ⟨A, c, rfl, hC, hc, below_step (below_two w3 _ _) hb⟩
theorem same_here (w4 : World) (A : Option Addr) (c : Nat) (hC : Kd.C (Kd.int .i64) w4 A 3 [1, 2, 3]) (hc : 3 ≤ c) : Calls Try.prog 9 #[.slice A 3 c, .slice (some ⟨w4.heap.size, 0, none⟩) 3 3] (w4.alloc (.cells #[.int .i64 1, .int .i64 2, .int .i64 3] 3)) fun e w' => e = .returned (.bool true) ∧ Below w4.heap.size w4 w' := by
  refine (Pbase.cloisterref01_Same.calls 10 A c [1, 2, 3] (some ⟨w4.heap.size, 0, none⟩) 3 [1, 2, 3] true _ (Kd.C_alloc hC _) hc (C_lit _ _ [1, 2, 3] (by simp) (heap_alloc_new w4 _)) (by simp) same_123).mono ?_
  rintro e w' ⟨he, hd⟩
  exact ⟨he, below_step (below_alloc (Below.refl _ _) _) (by obtain ⟨q, rfl⟩ := hd; exact ⟨rfl, rfl, rfl, Nat.le_refl _, fun _ _ => rfl⟩)⟩
theorem within_here (w5 : World) : Calls Try.prog 15 #[.slice (some ⟨w5.heap.size, 0, none⟩) 1 1, .slice (some ⟨w5.heap.size + 1, 0, none⟩) 2 2] ((w5.alloc (.cells #[.int .i64 1] 3)).alloc (.cells #[.int .i64 2, .int .i64 1] 3)) fun e w' => e = .returned (.bool true) ∧ Below w5.heap.size w5 w' := by
  have h2 := two_heap w5 (.cells #[.int .i64 1] 3) (.cells #[.int .i64 2, .int .i64 1] 3)
  refine (within_calls (some ⟨w5.heap.size, 0, none⟩) 1 [1] (some ⟨w5.heap.size + 1, 0, none⟩) 2 [2, 1] _ (C_lit _ _ [1] (by simp) h2.1) (by simp) (C_lit _ _ [2, 1] (by simp) h2.2) (by simp) (by simp) (by simp)).mono ?_
  rintro e w' ⟨he, hb⟩
  rw [less_12] at he
  exact ⟨he, below_step (below_two w5 _ _) hb⟩

set_option maxHeartbeats 800000 in
set_option maxRecDepth 100000 in
theorem awake_calls (w : World) : Calls Try.prog 13 #[] w fun e w' => e = .returned (.bool true) ∧ Below w.heap.size w w' := by
  go_enter Try.func13, Try.ntmps13
  go_wp2_with (first
    | (go_at_call 30; refine (new_calls 1 (by decide) (by decide) _).mono ?_; rintro e w1 ⟨rfl, rfl⟩)
    | (go_at_call 31; first | (with_reducible refine (add5_calls w).mono ?_; rintro e w2 ⟨v2, rfl, hs, hb⟩; have HS := Aside0.mk hs; have HB := Aside0.mk hb; clear hs hb) | (with_reducible refine (add6_calls w w2 v2 HS.out HB.out).mono ?_; rintro e w3 ⟨rfl, hb⟩; have HB3 := Aside0.mk hb; clear hb))
    | (go_at_call 10; with_reducible refine (join_here w3).mono ?_; rintro e w4 ⟨A4, c4, rfl, hc, hcc, hb⟩; have HC4 := Aside0.mk hc; have HCC4 := Aside0.mk hcc; have HB4 := Aside0.mk (below_step HB3.out hb); clear hc hcc hb)
    | (go_at_call 9; with_reducible refine (same_here w4 A4 c4 HC4.out HCC4.out).mono ?_; rintro e w5 ⟨rfl, hb⟩; have HB5 := Aside0.mk (below_step HB4.out hb); clear hb)
    | (go_at_call 15; with_reducible refine (within_here w5).mono ?_; rintro e w6 ⟨rfl, hb⟩; have HB6 := Aside0.mk (below_step HB5.out hb); clear hb))
  go_ret
  exact ⟨rfl, HB6.out⟩
end Go.Proofs.Ytpidbaaojgdpmaa.SetW
