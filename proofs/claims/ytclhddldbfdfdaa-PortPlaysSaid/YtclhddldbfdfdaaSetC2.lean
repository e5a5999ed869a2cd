/- The list functions' contracts, told as rows that can be read on; Within; the laws of sets (no law's own functions). -/
import Derived.Test.YtclhddldbfdfdaaSetHands
import Derived.Test.YtclhddldbfdfdaaPbasex
namespace Go.Proofs.Ytclhddldbfdfdaa.SetW
open Go.RowKit Go.Proofs.YtclhddldbfdfdaaW.PrintWords Go.Proofs.YtclhddldbfdfdaaW.PrintMore Go.Proofs.Ytclhddldbfdfdaa.SetF Go.Proofs.Ytclhddldbfdfdaa.OwnPut
set_option linter.unusedVariables false
set_option maxHeartbeats 4000000 in
set_option maxRecDepth 100000 in
theorem within_calls (A0 : Option Addr) (c0 : Nat) (l0 : List Int) (A1 : Option Addr) (c1 : Nat) (l1 : List Int) (w : World) (hr0 : Kd.C (Kd.int .i64) w A0 l0.length l0) (hc0 : l0.length ≤ c0) (hr1 : Kd.C (Kd.int .i64) w A1 l1.length l1) (hc1 : l1.length ≤ c1) (hb0 : l0.length * 8 ≤ 140737488355328) (hb1 : l1.length * 8 ≤ 140737488355328) :
    Calls Try.prog 37 #[.slice A0 l0.length c0, .slice A1 l1.length c1] w fun e w' => e = .returned (.bool (((keptL l0 l1 false).length : Int) == 0)) ∧ Below w.heap.size w w' := by
  have HK := Aside0.mk (less_calls 0 A0 c0 l0 A1 c1 l1 _ w hr0 hc0 hr1 hc1 (if_pos ⟨hb0, hb1⟩))
  clear hr0 hc0 hr1 hc1 hb0 hb1
  generalize keptL l0 l1 false = r at *
  go_enter Try.func37, Try.ntmps37
  go_wp2_with (go_at_call 36; refine HK.out.mono ?_; rintro e w1 ⟨v1, rfl, hR, hb⟩; obtain ⟨Ar, cr, er⟩ := Kd.R_slice hR; subst er; have HB := Aside0.mk hb; clear hR hb)
  go_ret
  exact ⟨by first | rfl | simp, HB.out⟩
def CPost (w : World) (l : List Int) (e : Ending) (w' : World) : Prop := ∃ A c, e = .returned (.slice A l.length c) ∧ l.length ≤ c ∧ Kd.C (Kd.int .i64) w' A l.length l ∧ Below w.heap.size w w'
theorem CPost.of {w : World} {l : List Int} {e : Ending} {w' : World} (h : SlicePost w l e w') : CPost w l e w' := by
  obtain ⟨v, rfl, hR, hb⟩ := h
  obtain ⟨A, c, rfl, hc, hC⟩ := Kd.R_reads hR
  exact ⟨A, c, rfl, hc, hC, hb⟩
theorem same_l0 (x y : List Int) (h : x.length = y.length) (hs : x.length ≤ 4611686018427387904) (i k : Nat) (hk : i + k = x.length) : Pbase.cloisterref01_Same.l0 (k + 1) x y (i : Int) = some (decide (x.drop i = y.drop i)) := by
  induction k generalizing i with
  | zero =>
    unfold Pbase.cloisterref01_Same.l0
    rw [if_neg (by omega), List.drop_of_length_le (by omega), List.drop_of_length_le (by omega)]
    simp
  | succ k ih =>
    unfold Pbase.cloisterref01_Same.l0
    have hx : i < x.length := by omega
    have hy : i < y.length := by omega
    have r1 : rd x (i : Int) = x[i] := by simp [rd, List.getD_eq_getElem?_getD, List.getElem?_eq_getElem hx]
    have r2 : rd y (i : Int) = y[i] := by simp [rd, List.getD_eq_getElem?_getD, List.getElem?_eq_getElem hy]
    have hw : wrap64 ((i : Int) + 1) = ((i + 1 : Nat) : Int) := by unfold wrap64; omega
    rw [if_pos (by omega), if_pos (by omega), if_pos (by omega), r1, r2, hw, List.drop_eq_getElem_cons hx, List.drop_eq_getElem_cons hy]
    by_cases he : x[i] = y[i]
    · rw [if_pos he, ih (i + 1) (by omega), he]
      simp only [List.cons.injEq, true_and]
    · rw [if_neg he]
      simp only [List.cons.injEq, he, false_and, decide_false]
theorem same_f (x y : List Int) (hs : x.length ≤ 4611686018427387904) : Pbase.cloisterref01_Same.f (x.length + 1) x y = some (decide (x = y)) := by
  unfold Pbase.cloisterref01_Same.f
  by_cases h : x.length = y.length
  · rw [if_pos (by omega)]
    have := same_l0 x y h hs 0 x.length (by omega)
    simpa using this
  · rw [if_neg (by omega)]
    have : x ≠ y := fun e => h (by rw [e])
    simp [this]
theorem same_calls (A0 : Option Addr) (c0 : Nat) (x : List Int) (A1 : Option Addr) (c1 : Nat) (y : List Int) (w : World) (h0 : Kd.C (Kd.int .i64) w A0 x.length x) (hc0 : x.length ≤ c0) (h1 : Kd.C (Kd.int .i64) w A1 y.length y) (hc1 : y.length ≤ c1) (hs : x.length ≤ 4611686018427387904) :
    Calls Try.prog 16 #[.slice A0 x.length c0, .slice A1 y.length c1] w fun e w' => e = .returned (.bool (decide (x = y))) ∧ Below w.heap.size w w' :=
  (Pbase.cloisterref01_Same.calls _ A0 c0 x A1 c1 y _ w h0 hc0 h1 hc1 (same_f x y hs)).mono fun e w' ⟨he, hd⟩ => ⟨he, hd.below⟩
theorem ofC (A0 : Option Addr) (c0 : Nat) (l0 : List Int) (w : World) (h0 : Kd.C (Kd.int .i64) w A0 l0.length l0) (hc0 : l0.length ≤ c0) (hb : l0.length * 8 ≤ 140737488355328) :
    Calls Try.prog 45 #[.slice A0 l0.length c0] w (CPost w (ofL l0)) := (of_calls A0 c0 l0 w h0 hc0 hb).mono fun _ _ h => CPost.of h
theorem joinC (A0 : Option Addr) (c0 : Nat) (l0 : List Int) (A1 : Option Addr) (c1 : Nat) (l1 : List Int) (w : World) (h0 : Kd.C (Kd.int .i64) w A0 l0.length l0) (h1 : Kd.C (Kd.int .i64) w A1 l1.length l1) (hb : (l0.length + l1.length) * 8 ≤ 140737488355328) :
    Calls Try.prog 35 #[.slice A0 l0.length c0, .slice A1 l1.length c1] w (CPost w (joinL l0 l1)) := (join_calls A0 c0 l0 A1 c1 l1 w h0 h1 hb).mono fun _ _ h => CPost.of h
theorem lessC (A0 : Option Addr) (c0 : Nat) (l0 : List Int) (A1 : Option Addr) (c1 : Nat) (l1 : List Int) (w : World) (h0 : Kd.C (Kd.int .i64) w A0 l0.length l0) (hc0 : l0.length ≤ c0) (h1 : Kd.C (Kd.int .i64) w A1 l1.length l1) (hc1 : l1.length ≤ c1) (hb0 : l0.length * 8 ≤ 140737488355328) (hb1 : l1.length * 8 ≤ 140737488355328) :
    Calls Try.prog 36 #[.slice A0 l0.length c0, .slice A1 l1.length c1] w (CPost w (keptL l0 l1 false)) := (less_calls 0 A0 c0 l0 A1 c1 l1 _ w h0 hc0 h1 hc1 (if_pos ⟨hb0, hb1⟩)).mono fun _ _ h => CPost.of h
theorem kept_len (a b : List Int) (i : Bool) : (keptL a b i).length ≤ a.length := Nat.le_trans (by unfold keptL; exact List.length_filter_le _ _) (ofL_len a)
theorem join_len (a b : List Int) : (joinL a b).length ≤ a.length + b.length := by unfold joinL; have := ofL_len (a ++ b); simpa using this
/- the laws of sets, plainly -/
theorem less_meet (a b : List Int) : keptL (keptL a b false) (keptL a b true) true = [] := List.eq_nil_iff_forall_not_mem.2 fun x h => by rw [mem_meet, mem_less, mem_meet] at h; exact h.1.2 h.2.2
theorem less_join (a b : List Int) : joinL (keptL a b false) (keptL a b true) = ofL a := rises_ext (joinL_rises _ _) (ofL_rises _) fun x => by
  rw [mem_joinL, mem_less, mem_meet, mem_ofL]
  by_cases h : x ∈ b <;> simp [h]
theorem within_join (a b : List Int) : (keptL a b false).length = 0 ↔ joinL a b = ofL b := by
  rw [List.length_eq_zero_iff]
  constructor
  · intro h
    refine rises_ext (joinL_rises _ _) (ofL_rises _) fun x => ?_
    rw [mem_joinL, mem_ofL]
    have : x ∈ a → x ∈ b := fun hx => Classical.byContradiction fun hn => by
      have : x ∈ keptL a b false := mem_less.2 ⟨hx, hn⟩
      rw [h] at this
      cases this
    exact ⟨fun h => h.elim this id, .inr⟩
  · intro h
    refine List.eq_nil_iff_forall_not_mem.2 fun x hx => ?_
    obtain ⟨h1, h2⟩ := mem_less.1 hx
    exact h2 (mem_ofL.1 (h ▸ mem_joinL.2 (.inl h1)))
end Go.Proofs.Ytclhddldbfdfdaa.SetW
