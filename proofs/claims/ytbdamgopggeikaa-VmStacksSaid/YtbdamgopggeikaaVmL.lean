/- What the laws of the machine share: the reference's Same, awake. -/
import Derived.Test.YtbdamgopggeikaaVmRun5
namespace Go.Proofs.Ytbdamgopggeikaa.VmW
open Go.RowKit Go.Proofs.YtbdamgopggeikaaW.PrintWords Go.Proofs.YtbdamgopggeikaaW.PrintMore Go.Proofs.YtbdamgopggeikaaW.PrintLast Go.Proofs.Ytbdamgopggeikaa.Pvm
set_option linter.unusedVariables false
set_option linter.unusedSimpArgs false
theorem same_l0 (x y : List Int) (h : x.length = y.length) (hs : x.length ≤ 4611686018427387904) (i k : Nat) (hk : i + k = x.length) : cloisterref01_Same.l0 (k + 1) x y (i : Int) = some (decide (x.drop i = y.drop i)) := by
  induction k generalizing i with
  | zero =>
    unfold cloisterref01_Same.l0
    rw [if_neg (by omega), List.drop_of_length_le (by omega), List.drop_of_length_le (by omega)]
    simp
  | succ k ih =>
    unfold cloisterref01_Same.l0
    have hx : i < x.length := by omega
    have hy : i < y.length := by omega
    have r1 : rd x (i : Int) = x[i] := by simp [rd, List.getD_eq_getElem?_getD, List.getElem?_eq_getElem hx]
    have r2 : rd y (i : Int) = y[i] := by simp [rd, List.getD_eq_getElem?_getD, List.getElem?_eq_getElem hy]
    have hw : wrap64 ((i : Int) + 1) = ((i + 1 : Nat) : Int) := by unfold wrap64; omega
    rw [if_pos (by omega), if_pos (by omega), if_pos (by omega), r1, r2, hw, List.drop_eq_getElem_cons hx, List.drop_eq_getElem_cons hy]
    by_cases he : x[i] = y[i]
    · rw [if_pos he, ih (i + 1) (by omega), he]
      simp only [List.cons.injEq, true_and]
    · rw [if_neg he]
      simp only [List.cons.injEq, he, false_and, decide_false]
theorem same_f (x y : List Int) (hs : x.length ≤ 4611686018427387904) : cloisterref01_Same.f (x.length + 1) x y = some (decide (x = y)) := by
  unfold cloisterref01_Same.f
  by_cases h : x.length = y.length
  · rw [if_pos (by omega)]
    have := same_l0 x y h hs 0 x.length (by omega)
    simpa using this
  · rw [if_neg (by omega)]
    have : x ≠ y := fun e => h (by rw [e])
    simp [this]
theorem same_calls (A0 : Option Addr) (c0 : Nat) (x : List Int) (A1 : Option Addr) (c1 : Nat) (y : List Int) (w : World) (h0 : Kd.C (Kd.int .i64) w A0 x.length x) (hc0 : x.length ≤ c0) (h1 : Kd.C (Kd.int .i64) w A1 y.length y) (hc1 : y.length ≤ c1) (hs : x.length ≤ 4611686018427387904) (b : Bool) (hb : decide (x = y) = b) :
    Calls Try.prog 18 #[.slice A0 x.length c0, .slice A1 y.length c1] w (BPost w b) :=
  (cloisterref01_Same.calls _ A0 c0 x A1 c1 y _ w h0 hc0 h1 hc1 (same_f x y hs)).mono fun e w' ⟨he, hd⟩ => ⟨hb ▸ he, hd.below⟩
/-- A row of one's own can be read. -/
theorem own_C {W : World} {base : Nat} {A : Option Addr} {c : Nat} {l : List Int} (h : W.ownsRow base 3 1 (.slice A l.length c) l.length (nums .i64 l)) : Kd.C (Kd.int .i64) W A l.length l ∧ l.length ≤ c := by
  obtain ⟨A', c', e, hc, hC⟩ := Kd.R_reads (Kd.R_of_own (h1 := fun _ => rfl) (ok := fun _ => True) (enc := Value.int .i64) h (fun _ _ => trivial))
  injection e with e1 _ e3
  subst e1 e3
  exact ⟨hC, hc⟩
/-- What a run leaves, told to a law: all that was turned is the law's own. -/
theorem run_below {w0 W W' : World} {f : Nat → Prop} (h : Below w0.heap.size w0 W) (hm : Mv W W' f) (hf : ∀ k, f k → w0.heap.size ≤ k) : Below w0.heap.size w0 W' :=
  ⟨hm.os.trans h.os, hm.tape.trans h.tape, hm.output.trans h.output, Nat.le_trans h.size hm.size, fun i hi => (hm.block i (Nat.lt_of_lt_of_le hi h.size) (fun e => by have := hf i e; omega)).trans (h.block i hi)⟩
def memF (mb : Nat) (v : Value) (k : Nat) : Prop := k = mb ∨ v.ownBlock = some k
theorem MemAt.p {W : World} {mb : Nat} {v : Value} {m : Mem} (h : MemAt W mb v m) : MemP W (.pointer (some ⟨mb, 0, none⟩)) (memF mb v) m := ⟨mb, v, rfl, h, fun k => Iff.rfl⟩
theorem in_lt {W : World} {a : Nat} {l : List In} (h : Kd.C kIn W (some ⟨a, 0, none⟩) l.length l) (hp : 0 < l.length) : a < W.heap.size := by
  obtain ⟨b, o, e, hb, _⟩ := code_at h hp
  injection e with e
  injection e with e
  omega
theorem below_q {W w2 w3 : World} (h : Below W.heap.size W w2) (k : Below W.heap.size w2 w3) : Below W.heap.size W w3 := ⟨k.os.trans h.os, k.tape.trans h.tape, k.output.trans h.output, Nat.le_trans h.size k.size, fun i hi => (k.block i hi).trans (h.block i hi)⟩
def AwPost (W : World) (q : Nat) (e : Ending) (W' : World) : Prop := ∃ A1 c1 A2 c2, e = .returned (.tuple #[.agg #[.int .i64 3, .slice A1 1 c1, .slice A2 0 c2], .agg #[.int .i64 3, .int .i64 0, .int .i64 4], .int .i64 0]) ∧ Kd.C (Kd.int .i64) W' A1 1 [5] ∧ 1 ≤ c1 ∧ (q ≤ W.heap.size → Below q W W')
theorem aw_run (W : World) (a mb : Nat) (v : Value) (hC : Kd.C kIn W (some ⟨a, 0, none⟩) sumL.length sumL) (hm : MemAt W mb v ⟨bytesOf ⟨#[]⟩, 0, 0⟩) (ha : a < mb) (q : Nat) (hq : q ≤ mb) (hv : ∀ k, v.ownBlock = some k → mb ≤ k) :
    Calls Try.prog 13 #[.slice (some ⟨a, 0, none⟩) 4 4, .agg #[.int .i64 0, .slice none 0 0, .slice none 0 0], .iface 29 (.pointer (some ⟨mb, 0, none⟩)), .int .i64 9] W (AwPost W q) := by
  refine (run_calls W (some ⟨a, 0, none⟩) 4 sumL hC (by decide) ⟨0, [], []⟩ none none 0 0 (Kd.C_nil _ _) (Kd.C_nil _ _) (.pointer (some ⟨mb, 0, none⟩)) (memF mb v) _ hm.p (fun ad e _ => ?_) 9).mono ?_
  · injection e with e
    subst e
    rintro (e | e)
    · exact absurd e (by simp; omega)
    · have := hv _ e; simp at this; omega
  · rintro e W' ⟨A1, c1, A2, c2, f', he, ho1, ho2, _, _, hmv, _⟩
    rw [show (⟨#[]⟩ : ByteArray) = ByteArray.empty from rfl, sum_run] at he ho1 ho2
    have hr := own_C ho1
    refine ⟨A1, c1, A2, c2, he, hr.1, hr.2, fun hle => ⟨hmv.os, hmv.tape, hmv.output, hmv.size, fun i hi => hmv.block i (by omega) (fun e => ?_)⟩⟩
    rcases e with e | e
    · omega
    · have := hv _ e; omega
theorem aw_same (w3 : World) (A1 : Option Addr) (c1 : Nat) (hC : Kd.C (Kd.int .i64) w3 A1 1 [5]) (hc : 1 ≤ c1) (o1 : Obj) (x y z : Value) : Calls Try.prog 18 #[.slice A1 1 c1, .slice (some ⟨w3.heap.size + 1 + 1, 0, none⟩) 1 1] (((w3.alloc o1).alloc (.cells #[x, y, z] 33)).alloc (.cells #[.int .i64 5] 3))
    (fun e w' => e = .returned (.bool true) ∧ Below w3.heap.size w3 w' ∧ w'.cell? ⟨w3.heap.size + 1, 0, none⟩ = some x ∧ w'.cell? ⟨w3.heap.size + 1, 1, none⟩ = some y ∧ w'.cell? ⟨w3.heap.size + 1, 2, none⟩ = some z) := by
  have hb := below_alloc (below_alloc (below_alloc (Below.refl w3.heap.size w3) o1) (.cells #[x, y, z] 33)) (.cells #[.int .i64 5] 3)
  have hz : ((w3.alloc o1).alloc (.cells #[x, y, z] 33)).heap.size = w3.heap.size + 1 + 1 := by simp
  have hl := lit_C ((w3.alloc o1).alloc (.cells #[x, y, z] 33)) [5] (by decide) _ rfl
  rw [hz] at hl
  have hx : (((w3.alloc o1).alloc (.cells #[x, y, z] 33)).alloc (.cells #[.int .i64 5] 3)).heap[w3.heap.size + 1]? = some (.cells #[x, y, z] 33 (0, 0)) := by
    refine (heap_alloc_old _ _ (by simp)).trans ?_
    have := heap_alloc_new (w3.alloc o1) (.cells #[x, y, z] 33)
    simpa using this
  refine (same_calls A1 c1 [5] _ 1 [5] _ (Kd.C_below hC hb) hc hl (by decide) (by decide) true rfl).mono fun e w' ⟨he, hb'⟩ => ⟨he, below_step hb hb', ?_, ?_, ?_⟩
  · exact (hb'.cell (p := ⟨w3.heap.size + 1, 0, none⟩) (blk_lt hx)).trans (blk_cell hx 0)
  · exact (hb'.cell (p := ⟨w3.heap.size + 1, 1, none⟩) (blk_lt hx)).trans (blk_cell hx 1)
  · exact (hb'.cell (p := ⟨w3.heap.size + 1, 2, none⟩) (blk_lt hx)).trans (blk_cell hx 2)
set_option maxHeartbeats 8000000 in
set_option maxRecDepth 100000 in
theorem awake_calls (W : World) : Calls Try.prog 10 #[] W (BPost W true) := by
  have hu := Try.underlying25
  have hu2 := Try.underlying33
  go_enter Try.func10, Try.ntmps10
  go_wp2_with (first
    | (go_at_call 23; (with_reducible refine (sum_calls W).mono ?_); rintro e w1 ⟨rfl, hC, hb⟩; have HC1 := Aside0.mk hC; have HB1 := Aside0.mk hb; clear hC hb)
    | (go_at_call 11; (with_reducible refine (filled_calls ⟨#[]⟩ w1 (by decide)).mono ?_); rintro e w2 ⟨v, rfl, hm, hb, hv⟩; have HM2 := Aside0.mk hm; have HB2 := Aside0.mk hb; have HV := Aside0.mk hv; clear hm hb hv)
    | (go_at_call 13; have hr := aw_run w2 W.heap.size w1.heap.size v (Kd.C_below HC1.out HB2.out) HM2.out (in_lt HC1.out (by decide)) W.heap.size HB1.out.size HV.out; (with_reducible refine hr.mono ?_); rintro e w3 ⟨A1, c1, A2, c2, rfl, hC5, hc5, hb5⟩; have HC5 := Aside0.mk hC5; have HB3 := Aside0.mk (below_q (below_step HB1.out HB2.out) (hb5 (Nat.le_trans HB1.out.size HB2.out.size))); have HCP := Aside0.mk hc5; clear hC5 hb5 hc5 hr)
    | (go_at_call 18; (with_reducible refine (aw_same w3 A1 c1 HC5.out HCP.out _ _ _ _).mono ?_); rintro e w4 ⟨rfl, hb4, z0, z1, z2⟩; have HB4 := Aside0.mk hb4; clear hb4))
  go_ret
  exact ⟨rfl, below_step HB3.out HB4.out⟩
end Go.Proofs.Ytbdamgopggeikaa.VmW
