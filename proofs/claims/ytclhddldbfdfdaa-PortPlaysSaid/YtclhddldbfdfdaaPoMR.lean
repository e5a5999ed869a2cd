/- The queue's Push. The queue's Pop and Copy. The queue's Copy. -/
import Derived.Test.YtclhddldbfdfdaaPoMQ
namespace Go.Proofs.Ytclhddldbfdfdaa.PoW
open Go.RowKit Go.Proofs.YtclhddldbfdfdaaW.PrintWords Go.Proofs.YtclhddldbfdfdaaW.PrintMore Go.Proofs.YtclhddldbfdfdaaW.PrintLast
attribute [local go_sem] max2_int min2_int max_two min_two
set_option linter.unusedVariables false
set_option linter.unusedSimpArgs false
section
variable {W : World} {base : Nat} {ok : Nat → Prop} {g room : Nat} {l : List Msg} {v : Value} {fr : Nat} {dr : Int} {buf : List Msg}
theorem put2 {W : World} {e : Nat} {ok : Nat → Prop} {b n c : Nat} (h : Kd.R kM e W base ok (.slice (some ⟨b, 0, none⟩) n c) buf) {j : Nat} (hj : j < buf.length) (x : Msg) : Kd.R kM e ((W.setCell ⟨b, j * 2, none⟩ (.int .i64 x.1)).setCell ⟨b, j * 2 + 1, none⟩ (.string x.2)) base ok (.slice (some ⟨b, 0, none⟩) n c) (buf.set j x) := by
  obtain ⟨hn, _, _⟩ := Kd.R_reads' h
  obtain ⟨b', c', hv, _, _, hob, x0, x1, _, _⟩ := row_cells h hj
  injection hv with hv
  injection hv with hv
  injection hv with hv
  subst hv
  have h0 := h.1
  have := (Kd.R_seg h (j : Int) (by omega) (by omega) (c := encM buf[j]) (seg := encM x) (j := 0) rfl ?_ (by simp [encM, kM_sz]) (x' := x) (okp := fun _ => False) (kM_M (kM_mk W x)) (fun _ h => h.elim)).1
  · exact this
  · intro i u hu
    rcases i with _ | _ | i
    · have e := Option.some.inj hu
      subst e
      simpa [kM_sz] using x0
    · have e := Option.some.inj hu
      subst e
      simpa [kM_sz] using x1
    · simp [encM] at hu
/-- The box that came, and the queue ahead of the store. -/
structure PQ (W W2 : World) (base : Nat) (ok : Nat → Prop) (g room : Nat) (l : List Msg) (v : Value) (fr : Nat) (dr : Int) (buf : List Msg) (x : Msg) : Prop where
  q : QIn W2 base ok g room l v fr dr buf
  room_ : l.length < buf.length
  mod : Mod W W2 (fun k => k = g)
  box : W2.heap[W.heap.size]? = some (.cells #[.int .i64 x.1, .string x.2] 37 (0, 0))
theorem PQ.drew {W W2 : World} {x : Msg} (h : PQ W W2 base ok g room l v fr dr buf x) : PQ W W2.drew base ok g room l v fr dr buf x := ⟨h.q.move (fun _ _ _ => rfl) (fun _ h _ => h), h.room_, h.mod.drew, h.box⟩
def PushPost (W : World) (base : Nat) (ok : Nat → Prop) (g room : Nat) (l : List Msg) (x : Msg) (e : Ending) (W' : World) : Prop := e = .returned (.bool (decide (l.length < room))) ∧ QAt W' base ok g room (if l.length < room then l ++ [x] else l) ∧ Mod W W' ok
theorem QAt.move {W W' : World} {ok' : Nat → Prop} (h : QAt W base ok g room l) (hm : ∀ k, ok k → k < W.heap.size → W'.heap[k]? = W.heap[k]?) (ho : ∀ k, ok k → k < W.heap.size → ok' k) : QAt W' base ok' g room l := by
  obtain ⟨v, fr, dr, buf, h⟩ := h
  exact ⟨v, fr, dr, buf, h.move hm ho⟩
theorem PushPost.drew {x : Msg} {e : Ending} {W W' : World} (h : PushPost W base ok g room l x e W') : PushPost W base ok g room l x e W'.drew := ⟨h.1, h.2.1.move (fun _ _ _ => rfl) (fun _ h _ => h), h.2.2.drew⟩
theorem full_last {W W2 : World} {x : Msg} (h : QIn W2 base ok g room l v fr dr buf) (hm : Mod W W2 (fun k => k = g)) (hf : l.length = room) (d : Int) (h0 : 0 ≤ d) (h1 : d ≤ 4611686018427387904) : PushPost W base ok g room l x (.returned (.bool false)) (W2.setCell ⟨g, 4, none⟩ (.int .i64 d)) := by
  refine ⟨by rw [decide_eq_false (by omega)], ?_, (hm.mono (fun k _ e => e ▸ h.okg)).set _ _ (.inl h.okg)⟩
  rw [if_neg (by omega)]
  exact ⟨v, fr, d, buf, blk_set h.box 4 (.int .i64 d), Kd.R_far h.row (fun k hk => hk.2) _, h.ring, h.short, h0, h1, h.okg, h.room0, h.room1⟩
theorem PQ.last {W W2 : World} {b c : Nat} {x : Msg} (h : PQ W W2 base ok g room l (.slice (some ⟨b, 0, none⟩) buf.length c) fr dr buf x) (hroom : l.length < room) (hob : ok b) {W' : World} (hW : W' = ((W2.setCell ⟨b, (fr + l.length) % buf.length * 2, none⟩ (.int .i64 x.1)).setCell ⟨b, (fr + l.length) % buf.length * 2 + 1, none⟩ (.string x.2)).setCell ⟨g, 3, none⟩ (.int .i64 ((l.length : Int) + 1))) (hbg : b ≠ g) :
    PushPost W base ok g room l x (.returned (.bool true)) W' := by
  subst hW
  have hj : (fr + l.length) % buf.length < buf.length := Nat.mod_lt _ (by have := h.room_; omega)
  refine ⟨by rw [decide_eq_true hroom], ?_, ?_⟩
  · rw [if_pos hroom]
    refine ⟨.slice (some ⟨b, 0, none⟩) buf.length c, fr, dr, buf.set ((fr + l.length) % buf.length) x, ?_, ?_, h.q.ring.push x h.room_, by rw [List.length_set]; exact h.q.short, h.q.dr0, h.q.dr1, h.q.okg, h.q.room0, h.q.room1⟩
    · have h1 := (Below.heap_setCell (W2.setCell ⟨b, (fr + l.length) % buf.length * 2, none⟩ (.int .i64 x.1)) ⟨b, (fr + l.length) % buf.length * 2 + 1, none⟩ (.string x.2) g (Ne.symm hbg)).trans ((Below.heap_setCell W2 ⟨b, (fr + l.length) % buf.length * 2, none⟩ (.int .i64 x.1) g (Ne.symm hbg)).trans h.q.box)
      have h2 := blk_set h1 3 (.int .i64 ((l.length : Int) + 1))
      rw [List.length_append, List.length_singleton, Int.natCast_add]
      exact h2
    · have h1 := put2 h.q.row hj x
      exact Kd.R_far h1 (fun k hk => hk.2) _
  · refine (((h.mod.mono (S' := ok) (fun k _ e => e ▸ h.q.okg)).set _ _ (.inl hob)).set _ _ (.inl hob)).set _ _ (.inl h.q.okg)
set_option maxHeartbeats 4000000 in
set_option maxRecDepth 100000 in
theorem push_calls (h : QAt W base ok g room l) (hfresh : ∀ k, W.heap.size ≤ k → ok k) (hbase : base ≤ W.heap.size) (x : Msg) : Calls Try.prog 25 #[.pointer (some ⟨g, 0, none⟩), .agg #[.int .i64 x.1, .string x.2]] W (PushPost W base ok g room l x) := by
  obtain ⟨v, fr, dr, buf, h⟩ := h
  have hgl := h.lt
  have HX := Aside0.mk (show ∀ W1, W.alloc (.cells #[.int .i64 x.1, .string x.2] 37) = W1 → QIn W1 base ok g room l v fr dr buf ∧ Mod W W1 (fun k => k = g) ∧ W1.heap[W.heap.size]? = some (.cells #[.int .i64 x.1, .string x.2] 37 (0, 0)) from fun W1 e => by
    subst e
    have hb := below_alloc (Below.refl W.heap.size W) (.cells #[.int .i64 x.1, .string x.2] 37)
    exact ⟨h.move (fun k _ hk => hb.block k hk) (fun _ h _ => h), Mod.of_below hb _, heap_alloc_new W _⟩)
  have hlr := h.ring.fits
  have hsh := h.short
  have r64 := h.room1
  obtain ⟨B, cv, rfl⟩ := Kd.R_slice h.row
  have hd0 := h.dr0
  have hd1 := h.dr1
  clear h
  by_cases hfull : l.length = room
  · have b0 : ((l.length : Int) == (room : Int)) = true := by rw [hfull]; simp
    have b1 : decide ((l.length : Int) = (room : Int)) = true := by rw [hfull]; simp
    have HF := Aside0.mk hfull
    have e6 : wrap64 (dr + 1) = dr + 1 := by unfold wrap64; omega
    clear hfull
    go_enter Try.func25, Try.ntmps25
    go_wp2_with (go_at_call 38; (with_reducible refine (QIn.given (HX.out _ rfl).1).mono ?_); rintro e w1 ⟨rfl, hw⟩; obtain ⟨hq, hm, hx⟩ := HX.out w1 hw; have HQ1 := Aside0.mk hq; have HM1 := Aside0.mk hm; have HB1 := Aside0.mk hx; have HB1s := Aside0.mk (show W.heap.size + 1 ≤ w1.heap.size from blk_lt hx); clear hq hm hx HX hw)
    have r0 : w1.cell? ⟨g, 0, none⟩ = some (.int .i64 (room : Int)) := blk_cell HQ1.out.box 0
    have r1 : w1.cell? ⟨g, 1, none⟩ = some (.slice B buf.length cv) := blk_cell HQ1.out.box 1
    have r3 : w1.cell? ⟨g, 3, none⟩ = some (.int .i64 (l.length : Int)) := blk_cell HQ1.out.box 3
    refine start_ (n := 9) (S := fun w' => w'.cell? ⟨g, 0, none⟩ = some (.int .i64 (room : Int)) ∧ w'.cell? ⟨g, 3, none⟩ = some (.int .i64 (l.length : Int))) (ds := []) #[false, false, false, false, false, false, false, false, false] (by kernel_rfl) rfl rfl ⟨r0, r3⟩ (fun hHeld => ?_)
    refine pure_ (i := 0) (N := some 8) (v := ?_) (a' := ?_) #[true, false, false, false, false, false, false, false, false] rfl rfl (by kernel_rfl) (fun _ _ _ h => h) (Or.inl ⟨by rfl, ?_⟩) ?_ ?_
    rotate_left
    · intro w'
      go_simp
      with_reducible rfl
    rotate_left
    · simp only [Act.put, List.setIfInBounds_toArray, List.set_cons_zero, List.set_cons_succ, i64_w, i32_w]
      rfl
    refine pure_ (i := 1) (N := some 9) (v := ?_) (a' := ?_) #[true, true, false, false, false, false, false, false, false] rfl rfl (by kernel_rfl) (fun _ _ _ h => h) (Or.inl ⟨by rfl, ?_⟩) ?_ ?_
    rotate_left
    · intro w'
      go_simp
      with_reducible rfl
    rotate_left
    · simp only [Act.put, List.setIfInBounds_toArray, List.set_cons_zero, List.set_cons_succ, i64_w, i32_w]
      rfl
    refine pure_ (i := 2) (N := some 10) (v := ?_) (a' := ?_) #[true, true, true, false, false, false, false, false, false] rfl rfl (by kernel_rfl) (fun _ _ _ h => h) (Or.inl ⟨by rfl, ?_⟩) ?_ ?_
    rotate_left
    · intro w'
      go_simp
      with_reducible rfl
    rotate_left
    · simp only [Act.put, List.setIfInBounds_toArray, List.set_cons_zero, List.set_cons_succ, i64_w, i32_w]
      rfl
    refine pure_ (i := 4) (N := some 12) (v := ?_) (a' := ?_) #[true, true, true, false, true, false, false, false, false] rfl rfl (by kernel_rfl) (fun _ _ _ h => h) (Or.inl ⟨by rfl, ?_⟩) ?_ ?_
    rotate_left
    · intro w'
      go_simp
      with_reducible rfl
    rotate_left
    · simp only [Act.put, List.setIfInBounds_toArray, List.set_cons_zero, List.set_cons_succ, i64_w, i32_w]
      rfl
    refine pure_ (i := 5) (N := some 13) (v := ?_) (a' := ?_) #[true, true, true, false, true, true, false, false, false] rfl rfl (by kernel_rfl) (fun _ _ _ h => h) (Or.inl ⟨by rfl, ?_⟩) ?_ ?_
    rotate_left
    · intro w'
      go_simp
      with_reducible rfl
    rotate_left
    · simp only [Act.put, List.setIfInBounds_toArray, List.set_cons_zero, List.set_cons_succ, i64_w, i32_w]
      rfl
    refine pure_ (i := 6) (N := some 14) (v := ?_) (a' := ?_) #[true, true, true, false, true, true, true, false, false] rfl rfl (by kernel_rfl) (fun _ _ _ h => h) (Or.inl ⟨by rfl, ?_⟩) ?_ ?_
    rotate_left
    · intro w'
      go_simp
      with_reducible rfl
    rotate_left
    · simp only [Act.put, List.setIfInBounds_toArray, List.set_cons_zero, List.set_cons_succ, i64_w, i32_w]
      rfl
    refine take_ (i := 3) (N := some 11) (v := ?_) (a' := ?_) #[true, true, true, true, true, true, true, false, false] rfl rfl (by kernel_rfl) (fun _ _ _ h => h) (Or.inl ⟨by rfl, ?_⟩) hHeld ?_ ?_
    rotate_left
    · rintro w' ⟨s0, s1⟩
      go_simp
      with_reducible rfl
    rotate_left
    · simp only [Act.put, List.setIfInBounds_toArray, List.set_cons_zero, List.set_cons_succ, i64_w, i32_w]
      rfl
    refine take_ (i := 7) (N := some 15) (v := ?_) (a' := ?_) #[true, true, true, true, true, true, true, true, false] rfl rfl (by kernel_rfl) (fun _ _ _ h => h) (Or.inl ⟨by rfl, ?_⟩) hHeld ?_ ?_
    rotate_left
    · rintro w' ⟨s0, s1⟩
      go_simp
      with_reducible rfl
    rotate_left
    · simp only [Act.put, List.setIfInBounds_toArray, List.set_cons_zero, List.set_cons_succ, i64_w, i32_w]
      rfl
    refine pure_ (i := 8) (N := some 16) (v := ?_) (a' := ?_) #[true, true, true, true, true, true, true, true, true] rfl rfl (by kernel_rfl) (fun _ _ _ h => h) (Or.inl ⟨by rfl, ?_⟩) ?_ ?_
    rotate_left
    · intro w'
      go_simp
      with_reducible rfl
    rotate_left
    · simp only [Act.put, List.setIfInBounds_toArray, List.set_cons_zero, List.set_cons_succ, i64_w, i32_w]
      rfl
    refine done_ (by kernel_rfl) ?_

    have r4 : w1.cell? ⟨g, 4, none⟩ = some (.int .i64 dr) := blk_cell HQ1.out.box 4
    have p4 : w1.frozen? ⟨g, 4, none⟩ = false := blk_frozen HQ1.out.box 4
    generalize hwq : World.drew w1 = Wq
    have HW := Aside0.mk hwq
    replace r4 : Wq.cell? ⟨g, 4, none⟩ = some (.int .i64 dr) := hwq ▸ r4
    replace p4 : Wq.frozen? ⟨g, 4, none⟩ = false := hwq ▸ p4
    clear r0 r1 r3 hwq
    have HQW := Aside0.mk (show QIn Wq base ok g room l (.slice B buf.length cv) fr dr buf from HW.out ▸ HQ1.out.move (fun _ _ _ => rfl) (fun _ h _ => h))
    have HMW := Aside0.mk (show Mod W Wq (fun k => k = g) from HW.out ▸ HM1.out.drew)
    clear HW HQ1 HM1 HB1
    go_wp2
    all_goals go_ret
    all_goals exact full_last HQW.out HMW.out HF.out _ (by omega) (by omega)
  · have b0 : ((l.length : Int) == (room : Int)) = false := beq_false_of_ne (by omega)
    have b1 : decide ((l.length : Int) = (room : Int)) = false := decide_eq_false (by omega)
    have HLT := Aside0.mk (show l.length < room by omega)
    clear hd0 hd1
    by_cases hgrow : l.length = buf.length
    · have d0 : ((l.length : Int) == (buf.length : Int)) = true := by rw [hgrow]; simp
      have d1 : decide ((l.length : Int) = (buf.length : Int)) = true := by rw [hgrow]; simp
      have HGr := Aside0.mk hgrow
      clear hfull hgrow
      go_enter Try.func25, Try.ntmps25
      go_wp2_with (go_at_call 38; (with_reducible refine (QIn.given (HX.out _ rfl).1).mono ?_); rintro e w1 ⟨rfl, hw⟩; obtain ⟨hq, hm, hx⟩ := HX.out w1 hw; have HQ1 := Aside0.mk hq; have HM1 := Aside0.mk hm; have HB1 := Aside0.mk hx; have HB1s := Aside0.mk (show W.heap.size + 1 ≤ w1.heap.size from blk_lt hx); clear hq hm hx HX hw)
      have r0 : w1.cell? ⟨g, 0, none⟩ = some (.int .i64 (room : Int)) := blk_cell HQ1.out.box 0
      have r1 : w1.cell? ⟨g, 1, none⟩ = some (.slice B buf.length cv) := blk_cell HQ1.out.box 1
      have r3 : w1.cell? ⟨g, 3, none⟩ = some (.int .i64 (l.length : Int)) := blk_cell HQ1.out.box 3
      refine start_ (n := 9) (S := fun w' => w'.cell? ⟨g, 0, none⟩ = some (.int .i64 (room : Int)) ∧ w'.cell? ⟨g, 3, none⟩ = some (.int .i64 (l.length : Int))) (ds := []) #[false, false, false, false, false, false, false, false, false] (by kernel_rfl) rfl rfl ⟨r0, r3⟩ (fun hHeld => ?_)
      refine pure_ (i := 0) (N := some 8) (v := ?_) (a' := ?_) #[true, false, false, false, false, false, false, false, false] rfl rfl (by kernel_rfl) (fun _ _ _ h => h) (Or.inl ⟨by rfl, ?_⟩) ?_ ?_
      rotate_left
      · intro w'
        go_simp
        with_reducible rfl
      rotate_left
      · simp only [Act.put, List.setIfInBounds_toArray, List.set_cons_zero, List.set_cons_succ, i64_w, i32_w]
        rfl
      refine pure_ (i := 1) (N := some 9) (v := ?_) (a' := ?_) #[true, true, false, false, false, false, false, false, false] rfl rfl (by kernel_rfl) (fun _ _ _ h => h) (Or.inl ⟨by rfl, ?_⟩) ?_ ?_
      rotate_left
      · intro w'
        go_simp
        with_reducible rfl
      rotate_left
      · simp only [Act.put, List.setIfInBounds_toArray, List.set_cons_zero, List.set_cons_succ, i64_w, i32_w]
        rfl
      refine pure_ (i := 2) (N := some 10) (v := ?_) (a' := ?_) #[true, true, true, false, false, false, false, false, false] rfl rfl (by kernel_rfl) (fun _ _ _ h => h) (Or.inl ⟨by rfl, ?_⟩) ?_ ?_
      rotate_left
      · intro w'
        go_simp
        with_reducible rfl
      rotate_left
      · simp only [Act.put, List.setIfInBounds_toArray, List.set_cons_zero, List.set_cons_succ, i64_w, i32_w]
        rfl
      refine pure_ (i := 4) (N := some 12) (v := ?_) (a' := ?_) #[true, true, true, false, true, false, false, false, false] rfl rfl (by kernel_rfl) (fun _ _ _ h => h) (Or.inl ⟨by rfl, ?_⟩) ?_ ?_
      rotate_left
      · intro w'
        go_simp
        with_reducible rfl
      rotate_left
      · simp only [Act.put, List.setIfInBounds_toArray, List.set_cons_zero, List.set_cons_succ, i64_w, i32_w]
        rfl
      refine pure_ (i := 5) (N := some 13) (v := ?_) (a' := ?_) #[true, true, true, false, true, true, false, false, false] rfl rfl (by kernel_rfl) (fun _ _ _ h => h) (Or.inl ⟨by rfl, ?_⟩) ?_ ?_
      rotate_left
      · intro w'
        go_simp
        with_reducible rfl
      rotate_left
      · simp only [Act.put, List.setIfInBounds_toArray, List.set_cons_zero, List.set_cons_succ, i64_w, i32_w]
        rfl
      refine pure_ (i := 6) (N := some 14) (v := ?_) (a' := ?_) #[true, true, true, false, true, true, true, false, false] rfl rfl (by kernel_rfl) (fun _ _ _ h => h) (Or.inl ⟨by rfl, ?_⟩) ?_ ?_
      rotate_left
      · intro w'
        go_simp
        with_reducible rfl
      rotate_left
      · simp only [Act.put, List.setIfInBounds_toArray, List.set_cons_zero, List.set_cons_succ, i64_w, i32_w]
        rfl
      refine take_ (i := 3) (N := some 11) (v := ?_) (a' := ?_) #[true, true, true, true, true, true, true, false, false] rfl rfl (by kernel_rfl) (fun _ _ _ h => h) (Or.inl ⟨by rfl, ?_⟩) hHeld ?_ ?_
      rotate_left
      · rintro w' ⟨s0, s1⟩
        go_simp
        with_reducible rfl
      rotate_left
      · simp only [Act.put, List.setIfInBounds_toArray, List.set_cons_zero, List.set_cons_succ, i64_w, i32_w]
        rfl
      refine take_ (i := 7) (N := some 15) (v := ?_) (a' := ?_) #[true, true, true, true, true, true, true, true, false] rfl rfl (by kernel_rfl) (fun _ _ _ h => h) (Or.inl ⟨by rfl, ?_⟩) hHeld ?_ ?_
      rotate_left
      · rintro w' ⟨s0, s1⟩
        go_simp
        with_reducible rfl
      rotate_left
      · simp only [Act.put, List.setIfInBounds_toArray, List.set_cons_zero, List.set_cons_succ, i64_w, i32_w]
        rfl
      refine pure_ (i := 8) (N := some 16) (v := ?_) (a' := ?_) #[true, true, true, true, true, true, true, true, true] rfl rfl (by kernel_rfl) (fun _ _ _ h => h) (Or.inl ⟨by rfl, ?_⟩) ?_ ?_
      rotate_left
      · intro w'
        go_simp
        with_reducible rfl
      rotate_left
      · simp only [Act.put, List.setIfInBounds_toArray, List.set_cons_zero, List.set_cons_succ, i64_w, i32_w]
        rfl
      refine done_ (by kernel_rfl) ?_

      go_wp2
      refine start_ (n := 10) (S := fun w' => w'.cell? ⟨g, 1, none⟩ = some (.slice B buf.length cv) ∧ w'.cell? ⟨g, 3, none⟩ = some (.int .i64 (l.length : Int))) (ds := []) #[false, false, false, false, false, false, false, false, false, false] (by kernel_rfl) rfl rfl ⟨r1, r3⟩ (fun hHeld => ?_)
      refine pure_ (i := 0) (N := some 26) (v := ?_) (a' := ?_) #[true, false, false, false, false, false, false, false, false, false] rfl rfl (by kernel_rfl) (fun _ _ _ h => h) (Or.inl ⟨by rfl, ?_⟩) ?_ ?_
      rotate_left
      · intro w'
        go_simp
        with_reducible rfl
      rotate_left
      · simp only [Act.put, List.setIfInBounds_toArray, List.set_cons_zero, List.set_cons_succ, i64_w, i32_w]
        rfl
      refine pure_ (i := 1) (N := some 27) (v := ?_) (a' := ?_) #[true, true, false, false, false, false, false, false, false, false] rfl rfl (by kernel_rfl) (fun _ _ _ h => h) (Or.inl ⟨by rfl, ?_⟩) ?_ ?_
      rotate_left
      · intro w'
        go_simp
        with_reducible rfl
      rotate_left
      · simp only [Act.put, List.setIfInBounds_toArray, List.set_cons_zero, List.set_cons_succ, i64_w, i32_w]
        rfl
      refine pure_ (i := 2) (N := some 28) (v := ?_) (a' := ?_) #[true, true, true, false, false, false, false, false, false, false] rfl rfl (by kernel_rfl) (fun _ _ _ h => h) (Or.inl ⟨by rfl, ?_⟩) ?_ ?_
      rotate_left
      · intro w'
        go_simp
        with_reducible rfl
      rotate_left
      · simp only [Act.put, List.setIfInBounds_toArray, List.set_cons_zero, List.set_cons_succ, i64_w, i32_w]
        rfl
      refine pure_ (i := 4) (N := some 30) (v := ?_) (a' := ?_) #[true, true, true, false, true, false, false, false, false, false] rfl rfl (by kernel_rfl) (fun _ _ _ h => h) (Or.inl ⟨by rfl, ?_⟩) ?_ ?_
      rotate_left
      · intro w'
        go_simp
        with_reducible rfl
      rotate_left
      · simp only [Act.put, List.setIfInBounds_toArray, List.set_cons_zero, List.set_cons_succ, i64_w, i32_w]
        rfl
      refine pure_ (i := 5) (N := some 31) (v := ?_) (a' := ?_) #[true, true, true, false, true, true, false, false, false, false] rfl rfl (by kernel_rfl) (fun _ _ _ h => h) (Or.inl ⟨by rfl, ?_⟩) ?_ ?_
      rotate_left
      · intro w'
        go_simp
        with_reducible rfl
      rotate_left
      · simp only [Act.put, List.setIfInBounds_toArray, List.set_cons_zero, List.set_cons_succ, i64_w, i32_w]
        rfl
      refine pure_ (i := 6) (N := some 32) (v := ?_) (a' := ?_) #[true, true, true, false, true, true, true, false, false, false] rfl rfl (by kernel_rfl) (fun _ _ _ h => h) (Or.inl ⟨by rfl, ?_⟩) ?_ ?_
      rotate_left
      · intro w'
        go_simp
        with_reducible rfl
      rotate_left
      · simp only [Act.put, List.setIfInBounds_toArray, List.set_cons_zero, List.set_cons_succ, i64_w, i32_w]
        rfl
      refine take_ (i := 3) (N := some 29) (v := ?_) (a' := ?_) #[true, true, true, true, true, true, true, false, false, false] rfl rfl (by kernel_rfl) (fun _ _ _ h => h) (Or.inl ⟨by rfl, ?_⟩) hHeld ?_ ?_
      rotate_left
      · rintro w' ⟨s0, s1⟩
        go_simp
        with_reducible rfl
      rotate_left
      · simp only [Act.put, List.setIfInBounds_toArray, List.set_cons_zero, List.set_cons_succ, i64_w, i32_w]
        rfl
      refine take_ (i := 7) (N := some 33) (v := ?_) (a' := ?_) #[true, true, true, true, true, true, true, true, false, false] rfl rfl (by kernel_rfl) (fun _ _ _ h => h) (Or.inl ⟨by rfl, ?_⟩) hHeld ?_ ?_
      rotate_left
      · rintro w' ⟨s0, s1⟩
        go_simp
        with_reducible rfl
      rotate_left
      · simp only [Act.put, List.setIfInBounds_toArray, List.set_cons_zero, List.set_cons_succ, i64_w, i32_w]
        rfl
      refine pure_ (i := 8) (N := some 34) (v := ?_) (a' := ?_) #[true, true, true, true, true, true, true, true, true, false] rfl rfl (by kernel_rfl) (fun _ _ _ h => h) (Or.inl ⟨by rfl, ?_⟩) ?_ ?_
      rotate_left
      · intro w'
        go_simp
        with_reducible rfl
      rotate_left
      · simp only [Act.put, List.setIfInBounds_toArray, List.set_cons_zero, List.set_cons_succ, i64_w, i32_w]
        rfl
      refine pure_ (i := 9) (N := some 35) (v := ?_) (a' := ?_) #[true, true, true, true, true, true, true, true, true, true] rfl rfl (by kernel_rfl) (fun _ _ _ h => h) (Or.inl ⟨by rfl, ?_⟩) ?_ ?_
      rotate_left
      · intro w'
        go_simp
        with_reducible rfl
      rotate_left
      · simp only [Act.put, List.setIfInBounds_toArray, List.set_cons_zero, List.set_cons_succ, i64_w, i32_w]
        rfl
      refine done_ (by kernel_rfl) ?_

      have HG := Aside0.mk (show QIn w1.drew.drew base ok g room l (.slice B buf.length cv) fr dr buf from HQ1.out.move (fun _ _ _ => rfl) (fun _ h _ => h))
      have HGc := Aside0.mk (QIn.grow (W := w1.drew.drew) HG.out HGr.out (by have := HGr.out; have := HLT.out; omega) (fun k hk => hfresh k (Nat.le_trans HM1.out.size hk)) (Nat.le_trans hbase HM1.out.size))
      go_wp2_with (go_at_call 39; (with_reducible refine HGc.out.mono ?_); rintro e w2 ⟨rfl, v2, buf2, hq2, hl2, hm2⟩; have HQ2 := Aside0.mk hq2; have HL2 := Aside0.mk hl2; have HM2 := Aside0.mk hm2; clear hq2 hl2 hm2)
      obtain ⟨v3, fr2, buf3, hP⟩ : ∃ v3 fr2 buf3, PQ W w2 base ok g room l v3 fr2 dr buf3 x := ⟨_, _, _, HQ2.out, HL2.out, ((HM1.out.drew).drew).trans (HM2.out.mono (fun k _ h => .inl h)), (HM2.out.block _ (Nat.lt_of_lt_of_le (by simp) (show W.heap.size + 1 ≤ _ from HB1s.out)) (by omega)).trans HB1.out⟩
      have HP := Aside0.mk hP
      clear HQ2 HL2 HM2 HG HGc HQ1 HM1 HB1 HB1s HGr r0 r1 r3 hP
      obtain ⟨b, cb, hv, hbl, _, hob, x0, x1, f0, f1⟩ := row_cells HP.out.q.row (j := (fr2 + l.length) % buf3.length) (Nat.mod_lt _ (by have := HP.out.room_; omega))
      subst hv
      have q1 : w2.cell? ⟨g, 1, none⟩ = some (.slice (some ⟨b, 0, none⟩) buf3.length cb) := blk_cell HP.out.q.box 1
      have q2 : w2.cell? ⟨g, 2, none⟩ = some (.int .i64 (fr2 : Int)) := blk_cell HP.out.q.box 2
      have q3 : w2.cell? ⟨g, 3, none⟩ = some (.int .i64 (l.length : Int)) := blk_cell HP.out.q.box 3
      have p3 : w2.frozen? ⟨g, 3, none⟩ = false := blk_frozen HP.out.q.box 3
      have m0 : w2.cell? ⟨W.heap.size, 0, none⟩ = some (.int .i64 x.1) := blk_cell HP.out.box 0
      have m1 : w2.cell? ⟨W.heap.size, 1, none⟩ = some (.string x.2) := blk_cell HP.out.box 1
      have n0 : (b = g) = False := eq_false hob.2
      have n1 : (g = b) = False := eq_false (Ne.symm hob.2)
      have b64 : buf3.length ≤ 64 := Nat.le_trans HP.out.q.short HP.out.q.room1
      have hfr := HP.out.q.ring.from_
      have hlr := HP.out.room_
      have e1 : wrap64 ((fr2 : Int) + (l.length : Int)) = (fr2 : Int) + (l.length : Int) := wrap_add (by omega)
      have e3 : (buf3.length = 0) = False := eq_false (by omega)
      have e5 : wrap64 ((l.length : Int) + 1) = (l.length : Int) + 1 := by unfold wrap64; omega
      have hj : (fr2 + l.length) % buf3.length < buf3.length := Nat.mod_lt _ (Nat.lt_of_le_of_lt (Nat.zero_le _) hlr)
      have e2 : Int.tmod ((fr2 : Int) + (l.length : Int)) (buf3.length : Int) = (((fr2 + l.length) % buf3.length : Nat) : Int) := tmod_nat (fr2 + l.length) buf3.length
      have HL := Aside0.mk (fun (W' : World) hW => PQ.last HP.out.drew HLT.out hob.1 (W' := W') hW hob.2)
      clear hfr hlr
      generalize hy : buf3[(fr2 + l.length) % buf3.length] = y at x0 x1
      clear hy
      generalize (fr2 + l.length) % buf3.length = m at *
      generalize hn : buf3.length = n at *
      clear hn
      refine start_ (n := 22) (S := fun w' => w'.cell? ⟨g, 1, none⟩ = some (.slice (some ⟨b, 0, none⟩) n cb) ∧ w'.cell? ⟨g, 2, none⟩ = some (.int .i64 (fr2 : Int)) ∧ w'.cell? ⟨g, 3, none⟩ = some (.int .i64 (l.length : Int)) ∧ w'.cell? ⟨W.heap.size, 0, none⟩ = some (.int .i64 x.1) ∧ w'.cell? ⟨W.heap.size, 1, none⟩ = some (.string x.2)) (ds := [21]) #[false, false, false, false, false, false, false, false, false, false, false, false, false, false, false, false, false, false, false, false, false, false] (by kernel_rfl) rfl rfl ⟨q1, q2, q3, m0, m1⟩ (fun hHeld => ?_)
      refine pure_ (i := 0) (N := some 38) (v := ?_) (a' := ?_) #[true, false, false, false, false, false, false, false, false, false, false, false, false, false, false, false, false, false, false, false, false, false] rfl rfl (by kernel_rfl) (fun _ _ _ h => h) (Or.inl ⟨by rfl, ?_⟩) ?_ ?_
      rotate_left
      · intro w'
        go_simp
        with_reducible rfl
      rotate_left
      · simp only [Act.put, List.setIfInBounds_toArray, List.set_cons_zero, List.set_cons_succ, i64_w, i32_w]
        rfl
      refine pure_ (i := 1) (N := some 39) (v := ?_) (a' := ?_) #[true, true, false, false, false, false, false, false, false, false, false, false, false, false, false, false, false, false, false, false, false, false] rfl rfl (by kernel_rfl) (fun _ _ _ h => h) (Or.inl ⟨by rfl, ?_⟩) ?_ ?_
      rotate_left
      · intro w'
        go_simp
        with_reducible rfl
      rotate_left
      · simp only [Act.put, List.setIfInBounds_toArray, List.set_cons_zero, List.set_cons_succ, i64_w, i32_w]
        rfl
      refine pure_ (i := 2) (N := some 40) (v := ?_) (a' := ?_) #[true, true, true, false, false, false, false, false, false, false, false, false, false, false, false, false, false, false, false, false, false, false] rfl rfl (by kernel_rfl) (fun _ _ _ h => h) (Or.inl ⟨by rfl, ?_⟩) ?_ ?_
      rotate_left
      · intro w'
        go_simp
        with_reducible rfl
      rotate_left
      · simp only [Act.put, List.setIfInBounds_toArray, List.set_cons_zero, List.set_cons_succ, i64_w, i32_w]
        rfl
      refine pure_ (i := 4) (N := some 42) (v := ?_) (a' := ?_) #[true, true, true, false, true, false, false, false, false, false, false, false, false, false, false, false, false, false, false, false, false, false] rfl rfl (by kernel_rfl) (fun _ _ _ h => h) (Or.inl ⟨by rfl, ?_⟩) ?_ ?_
      rotate_left
      · intro w'
        go_simp
        with_reducible rfl
      rotate_left
      · simp only [Act.put, List.setIfInBounds_toArray, List.set_cons_zero, List.set_cons_succ, i64_w, i32_w]
        rfl
      refine pure_ (i := 5) (N := some 43) (v := ?_) (a' := ?_) #[true, true, true, false, true, true, false, false, false, false, false, false, false, false, false, false, false, false, false, false, false, false] rfl rfl (by kernel_rfl) (fun _ _ _ h => h) (Or.inl ⟨by rfl, ?_⟩) ?_ ?_
      rotate_left
      · intro w'
        go_simp
        with_reducible rfl
      rotate_left
      · simp only [Act.put, List.setIfInBounds_toArray, List.set_cons_zero, List.set_cons_succ, i64_w, i32_w]
        rfl
      refine pure_ (i := 6) (N := some 44) (v := ?_) (a' := ?_) #[true, true, true, false, true, true, true, false, false, false, false, false, false, false, false, false, false, false, false, false, false, false] rfl rfl (by kernel_rfl) (fun _ _ _ h => h) (Or.inl ⟨by rfl, ?_⟩) ?_ ?_
      rotate_left
      · intro w'
        go_simp
        with_reducible rfl
      rotate_left
      · simp only [Act.put, List.setIfInBounds_toArray, List.set_cons_zero, List.set_cons_succ, i64_w, i32_w]
        rfl
      refine pure_ (i := 8) (N := some 46) (v := ?_) (a' := ?_) #[true, true, true, false, true, true, true, false, true, false, false, false, false, false, false, false, false, false, false, false, false, false] rfl rfl (by kernel_rfl) (fun _ _ _ h => h) (Or.inl ⟨by rfl, ?_⟩) ?_ ?_
      rotate_left
      · intro w'
        go_simp
        with_reducible rfl
      rotate_left
      · simp only [Act.put, List.setIfInBounds_toArray, List.set_cons_zero, List.set_cons_succ, i64_w, i32_w]
        rfl
      refine pure_ (i := 9) (N := some 47) (v := ?_) (a' := ?_) #[true, true, true, false, true, true, true, false, true, true, false, false, false, false, false, false, false, false, false, false, false, false] rfl rfl (by kernel_rfl) (fun _ _ _ h => h) (Or.inl ⟨by rfl, ?_⟩) ?_ ?_
      rotate_left
      · intro w'
        go_simp
        with_reducible rfl
      rotate_left
      · simp only [Act.put, List.setIfInBounds_toArray, List.set_cons_zero, List.set_cons_succ, i64_w, i32_w]
        rfl
      refine pure_ (i := 10) (N := some 48) (v := ?_) (a' := ?_) #[true, true, true, false, true, true, true, false, true, true, true, false, false, false, false, false, false, false, false, false, false, false] rfl rfl (by kernel_rfl) (fun _ _ _ h => h) (Or.inl ⟨by rfl, ?_⟩) ?_ ?_
      rotate_left
      · intro w'
        go_simp
        with_reducible rfl
      rotate_left
      · simp only [Act.put, List.setIfInBounds_toArray, List.set_cons_zero, List.set_cons_succ, i64_w, i32_w]
        rfl
      refine pure_ (i := 13) (N := some 51) (v := ?_) (a' := ?_) #[true, true, true, false, true, true, true, false, true, true, true, false, false, true, false, false, false, false, false, false, false, false] rfl rfl (by kernel_rfl) (fun _ _ _ h => h) (Or.inl ⟨by rfl, ?_⟩) ?_ ?_
      rotate_left
      · intro w'
        go_simp
        with_reducible rfl
      rotate_left
      · simp only [Act.put, List.setIfInBounds_toArray, List.set_cons_zero, List.set_cons_succ, i64_w, i32_w]
        rfl
      refine pure_ (i := 14) (N := some 52) (v := ?_) (a' := ?_) #[true, true, true, false, true, true, true, false, true, true, true, false, false, true, true, false, false, false, false, false, false, false] rfl rfl (by kernel_rfl) (fun _ _ _ h => h) (Or.inl ⟨by rfl, ?_⟩) ?_ ?_
      rotate_left
      · intro w'
        go_simp
        with_reducible rfl
      rotate_left
      · simp only [Act.put, List.setIfInBounds_toArray, List.set_cons_zero, List.set_cons_succ, i64_w, i32_w]
        rfl
      refine pure_ (i := 15) (N := some 53) (v := ?_) (a' := ?_) #[true, true, true, false, true, true, true, false, true, true, true, false, false, true, true, true, false, false, false, false, false, false] rfl rfl (by kernel_rfl) (fun _ _ _ h => h) (Or.inl ⟨by rfl, ?_⟩) ?_ ?_
      rotate_left
      · intro w'
        go_simp
        with_reducible rfl
      rotate_left
      · simp only [Act.put, List.setIfInBounds_toArray, List.set_cons_zero, List.set_cons_succ, i64_w, i32_w]
        rfl
      refine take_ (i := 3) (N := some 41) (v := ?_) (a' := ?_) #[true, true, true, true, true, true, true, false, true, true, true, false, false, true, true, true, false, false, false, false, false, false] rfl rfl (by kernel_rfl) (fun _ _ _ h => h) (Or.inl ⟨by rfl, ?_⟩) hHeld ?_ ?_
      rotate_left
      · rintro w' ⟨s0, s1, s2, s3, s4⟩
        go_simp
        with_reducible rfl
      rotate_left
      · simp only [Act.put, List.setIfInBounds_toArray, List.set_cons_zero, List.set_cons_succ, i64_w, i32_w]
        rfl
      refine take_ (i := 7) (N := some 45) (v := ?_) (a' := ?_) #[true, true, true, true, true, true, true, true, true, true, true, false, false, true, true, true, false, false, false, false, false, false] rfl rfl (by kernel_rfl) (fun _ _ _ h => h) (Or.inl ⟨by rfl, ?_⟩) hHeld ?_ ?_
      rotate_left
      · rintro w' ⟨s0, s1, s2, s3, s4⟩
        go_simp
        with_reducible rfl
      rotate_left
      · simp only [Act.put, List.setIfInBounds_toArray, List.set_cons_zero, List.set_cons_succ, i64_w, i32_w]
        rfl
      refine take_ (i := 11) (N := some 49) (v := ?_) (a' := ?_) #[true, true, true, true, true, true, true, true, true, true, true, true, false, true, true, true, false, false, false, false, false, false] rfl rfl (by kernel_rfl) (fun _ _ _ h => h) (Or.inl ⟨by rfl, ?_⟩) hHeld ?_ ?_
      rotate_left
      · rintro w' ⟨s0, s1, s2, s3, s4⟩
        go_simp
        with_reducible rfl
      rotate_left
      · simp only [Act.put, List.setIfInBounds_toArray, List.set_cons_zero, List.set_cons_succ, i64_w, i32_w]
        rfl
      refine pure_ (i := 12) (N := some 50) (v := ?_) (a' := ?_) #[true, true, true, true, true, true, true, true, true, true, true, true, true, true, true, true, false, false, false, false, false, false] rfl rfl (by kernel_rfl) (fun _ _ _ h => h) (Or.inl ⟨by rfl, ?_⟩) ?_ ?_
      rotate_left
      · intro w'
        go_simp
        with_reducible rfl
      rotate_left
      · simp only [Act.put, List.setIfInBounds_toArray, List.set_cons_zero, List.set_cons_succ, i64_w, i32_w]
        rfl
      refine take_ (i := 16) (N := some 54) (v := ?_) (a' := ?_) #[true, true, true, true, true, true, true, true, true, true, true, true, true, true, true, true, true, false, false, false, false, false] rfl rfl (by kernel_rfl) (fun _ _ _ h => h) (Or.inl ⟨by rfl, ?_⟩) hHeld ?_ ?_
      rotate_left
      · rintro w' ⟨s0, s1, s2, s3, s4⟩
        go_simp
        with_reducible rfl
      rotate_left
      · simp only [Act.put, List.setIfInBounds_toArray, List.set_cons_zero, List.set_cons_succ, i64_w, i32_w]
        rfl
      refine pure_ (i := 17) (N := some 55) (v := ?_) (a' := ?_) #[true, true, true, true, true, true, true, true, true, true, true, true, true, true, true, true, true, true, false, false, false, false] rfl rfl (by kernel_rfl) (fun _ _ _ h => h) (Or.inl ⟨by rfl, ?_⟩) ?_ ?_
      rotate_left
      · intro w'
        go_simp
        with_reducible rfl
      rotate_left
      · simp only [Act.put, List.setIfInBounds_toArray, List.set_cons_zero, List.set_cons_succ, i64_w, i32_w]
        rfl
      refine pure_ (i := 18) (N := some 56) (v := ?_) (a' := ?_) #[true, true, true, true, true, true, true, true, true, true, true, true, true, true, true, true, true, true, true, false, false, false] rfl rfl (by kernel_rfl) (fun _ _ _ h => h) (Or.inl ⟨by rfl, ?_⟩) ?_ ?_
      rotate_left
      · intro w'
        go_simp
        with_reducible rfl
      rotate_left
      · simp only [Act.put, List.setIfInBounds_toArray, List.set_cons_zero, List.set_cons_succ, i64_w, i32_w]
        rfl
      refine take_ (i := 19) (N := some 57) (v := ?_) (a' := ?_) #[true, true, true, true, true, true, true, true, true, true, true, true, true, true, true, true, true, true, true, true, false, false] rfl rfl (by kernel_rfl) (fun _ _ _ h => h) (Or.inl ⟨by rfl, ?_⟩) hHeld ?_ ?_
      rotate_left
      · rintro w' ⟨s0, s1, s2, s3, s4⟩
        go_simp
        with_reducible rfl
      rotate_left
      · simp only [Act.put, List.setIfInBounds_toArray, List.set_cons_zero, List.set_cons_succ, i64_w, i32_w]
        rfl
      refine pure_ (i := 20) (N := some 58) (v := ?_) (a' := ?_) #[true, true, true, true, true, true, true, true, true, true, true, true, true, true, true, true, true, true, true, true, true, false] rfl rfl (by kernel_rfl) (fun _ _ _ h => h) (Or.inl ⟨by rfl, ?_⟩) ?_ ?_
      rotate_left
      · intro w'
        go_simp
        with_reducible rfl
      rotate_left
      · simp only [Act.put, List.setIfInBounds_toArray, List.set_cons_zero, List.set_cons_succ, i64_w, i32_w]
        rfl
      refine last_ (i := 21) (N := none) #[true, true, true, true, true, true, true, true, true, true, true, true, true, true, true, true, true, true, true, true, true, true] rfl rfl (by kernel_rfl) (by decide) (fun K hK => ?_)
      refine skip_ (w1 := ((w2.drew.setCell ⟨b, m * 2, none⟩ (.int .i64 x.1)).setCell ⟨b, m * 2 + 1, none⟩ (.string x.2))) (by rfl) rfl ?_ ?_
      · go_simp
        try rfl
      refine hK.out _ _ ?_
      clear hK K
      refine done_ (by kernel_rfl) ?_

      clear e2
      generalize hW3 : World.setCell (World.setCell (World.drew w2) _ _) _ _ = W3
      have s3 : W3.cell? ⟨g, 3, none⟩ = some (.int .i64 (l.length : Int)) := by rw [← hW3]; exact (cell_far (a := ⟨g, 3, none⟩) (p := ⟨b, m * 2 + 1, none⟩) (Ne.symm hob.2) _).trans ((cell_far (a := ⟨g, 3, none⟩) (p := ⟨b, m * 2, none⟩) (Ne.symm hob.2) _).trans q3)
      have t3 : W3.frozen? ⟨g, 3, none⟩ = false := by rw [← hW3, World.frozen?_setCell, World.frozen?_setCell]; exact p3
      have HW3 := Aside0.mk hW3
      clear x0 x1 f0 f1 q1 q2 q3 p3 m0 m1 n0 n1 hW3 hbl e1 e3 hj b64
      go_wp2
      go_ret
      rw [← HW3.out]
      exact HL.out _ rfl
    · have d0 : ((l.length : Int) == (buf.length : Int)) = false := beq_false_of_ne (by omega)
      have d1 : decide ((l.length : Int) = (buf.length : Int)) = false := decide_eq_false (by omega)
      have HGr := Aside0.mk (show l.length < buf.length by omega)
      clear hfull hgrow
      go_enter Try.func25, Try.ntmps25
      go_wp2_with (go_at_call 38; (with_reducible refine (QIn.given (HX.out _ rfl).1).mono ?_); rintro e w1 ⟨rfl, hw⟩; obtain ⟨hq, hm, hx⟩ := HX.out w1 hw; have HQ1 := Aside0.mk hq; have HM1 := Aside0.mk hm; have HB1 := Aside0.mk hx; have HB1s := Aside0.mk (show W.heap.size + 1 ≤ w1.heap.size from blk_lt hx); clear hq hm hx HX hw)
      have r0 : w1.cell? ⟨g, 0, none⟩ = some (.int .i64 (room : Int)) := blk_cell HQ1.out.box 0
      have r1 : w1.cell? ⟨g, 1, none⟩ = some (.slice B buf.length cv) := blk_cell HQ1.out.box 1
      have r3 : w1.cell? ⟨g, 3, none⟩ = some (.int .i64 (l.length : Int)) := blk_cell HQ1.out.box 3
      refine start_ (n := 9) (S := fun w' => w'.cell? ⟨g, 0, none⟩ = some (.int .i64 (room : Int)) ∧ w'.cell? ⟨g, 3, none⟩ = some (.int .i64 (l.length : Int))) (ds := []) #[false, false, false, false, false, false, false, false, false] (by kernel_rfl) rfl rfl ⟨r0, r3⟩ (fun hHeld => ?_)
      refine pure_ (i := 0) (N := some 8) (v := ?_) (a' := ?_) #[true, false, false, false, false, false, false, false, false] rfl rfl (by kernel_rfl) (fun _ _ _ h => h) (Or.inl ⟨by rfl, ?_⟩) ?_ ?_
      rotate_left
      · intro w'
        go_simp
        with_reducible rfl
      rotate_left
      · simp only [Act.put, List.setIfInBounds_toArray, List.set_cons_zero, List.set_cons_succ, i64_w, i32_w]
        rfl
      refine pure_ (i := 1) (N := some 9) (v := ?_) (a' := ?_) #[true, true, false, false, false, false, false, false, false] rfl rfl (by kernel_rfl) (fun _ _ _ h => h) (Or.inl ⟨by rfl, ?_⟩) ?_ ?_
      rotate_left
      · intro w'
        go_simp
        with_reducible rfl
      rotate_left
      · simp only [Act.put, List.setIfInBounds_toArray, List.set_cons_zero, List.set_cons_succ, i64_w, i32_w]
        rfl
      refine pure_ (i := 2) (N := some 10) (v := ?_) (a' := ?_) #[true, true, true, false, false, false, false, false, false] rfl rfl (by kernel_rfl) (fun _ _ _ h => h) (Or.inl ⟨by rfl, ?_⟩) ?_ ?_
      rotate_left
      · intro w'
        go_simp
        with_reducible rfl
      rotate_left
      · simp only [Act.put, List.setIfInBounds_toArray, List.set_cons_zero, List.set_cons_succ, i64_w, i32_w]
        rfl
      refine pure_ (i := 4) (N := some 12) (v := ?_) (a' := ?_) #[true, true, true, false, true, false, false, false, false] rfl rfl (by kernel_rfl) (fun _ _ _ h => h) (Or.inl ⟨by rfl, ?_⟩) ?_ ?_
      rotate_left
      · intro w'
        go_simp
        with_reducible rfl
      rotate_left
      · simp only [Act.put, List.setIfInBounds_toArray, List.set_cons_zero, List.set_cons_succ, i64_w, i32_w]
        rfl
      refine pure_ (i := 5) (N := some 13) (v := ?_) (a' := ?_) #[true, true, true, false, true, true, false, false, false] rfl rfl (by kernel_rfl) (fun _ _ _ h => h) (Or.inl ⟨by rfl, ?_⟩) ?_ ?_
      rotate_left
      · intro w'
        go_simp
        with_reducible rfl
      rotate_left
      · simp only [Act.put, List.setIfInBounds_toArray, List.set_cons_zero, List.set_cons_succ, i64_w, i32_w]
        rfl
      refine pure_ (i := 6) (N := some 14) (v := ?_) (a' := ?_) #[true, true, true, false, true, true, true, false, false] rfl rfl (by kernel_rfl) (fun _ _ _ h => h) (Or.inl ⟨by rfl, ?_⟩) ?_ ?_
      rotate_left
      · intro w'
        go_simp
        with_reducible rfl
      rotate_left
      · simp only [Act.put, List.setIfInBounds_toArray, List.set_cons_zero, List.set_cons_succ, i64_w, i32_w]
        rfl
      refine take_ (i := 3) (N := some 11) (v := ?_) (a' := ?_) #[true, true, true, true, true, true, true, false, false] rfl rfl (by kernel_rfl) (fun _ _ _ h => h) (Or.inl ⟨by rfl, ?_⟩) hHeld ?_ ?_
      rotate_left
      · rintro w' ⟨s0, s1⟩
        go_simp
        with_reducible rfl
      rotate_left
      · simp only [Act.put, List.setIfInBounds_toArray, List.set_cons_zero, List.set_cons_succ, i64_w, i32_w]
        rfl
      refine take_ (i := 7) (N := some 15) (v := ?_) (a' := ?_) #[true, true, true, true, true, true, true, true, false] rfl rfl (by kernel_rfl) (fun _ _ _ h => h) (Or.inl ⟨by rfl, ?_⟩) hHeld ?_ ?_
      rotate_left
      · rintro w' ⟨s0, s1⟩
        go_simp
        with_reducible rfl
      rotate_left
      · simp only [Act.put, List.setIfInBounds_toArray, List.set_cons_zero, List.set_cons_succ, i64_w, i32_w]
        rfl
      refine pure_ (i := 8) (N := some 16) (v := ?_) (a' := ?_) #[true, true, true, true, true, true, true, true, true] rfl rfl (by kernel_rfl) (fun _ _ _ h => h) (Or.inl ⟨by rfl, ?_⟩) ?_ ?_
      rotate_left
      · intro w'
        go_simp
        with_reducible rfl
      rotate_left
      · simp only [Act.put, List.setIfInBounds_toArray, List.set_cons_zero, List.set_cons_succ, i64_w, i32_w]
        rfl
      refine done_ (by kernel_rfl) ?_

      go_wp2
      refine start_ (n := 10) (S := fun w' => w'.cell? ⟨g, 1, none⟩ = some (.slice B buf.length cv) ∧ w'.cell? ⟨g, 3, none⟩ = some (.int .i64 (l.length : Int))) (ds := []) #[false, false, false, false, false, false, false, false, false, false] (by kernel_rfl) rfl rfl ⟨r1, r3⟩ (fun hHeld => ?_)
      refine pure_ (i := 0) (N := some 26) (v := ?_) (a' := ?_) #[true, false, false, false, false, false, false, false, false, false] rfl rfl (by kernel_rfl) (fun _ _ _ h => h) (Or.inl ⟨by rfl, ?_⟩) ?_ ?_
      rotate_left
      · intro w'
        go_simp
        with_reducible rfl
      rotate_left
      · simp only [Act.put, List.setIfInBounds_toArray, List.set_cons_zero, List.set_cons_succ, i64_w, i32_w]
        rfl
      refine pure_ (i := 1) (N := some 27) (v := ?_) (a' := ?_) #[true, true, false, false, false, false, false, false, false, false] rfl rfl (by kernel_rfl) (fun _ _ _ h => h) (Or.inl ⟨by rfl, ?_⟩) ?_ ?_
      rotate_left
      · intro w'
        go_simp
        with_reducible rfl
      rotate_left
      · simp only [Act.put, List.setIfInBounds_toArray, List.set_cons_zero, List.set_cons_succ, i64_w, i32_w]
        rfl
      refine pure_ (i := 2) (N := some 28) (v := ?_) (a' := ?_) #[true, true, true, false, false, false, false, false, false, false] rfl rfl (by kernel_rfl) (fun _ _ _ h => h) (Or.inl ⟨by rfl, ?_⟩) ?_ ?_
      rotate_left
      · intro w'
        go_simp
        with_reducible rfl
      rotate_left
      · simp only [Act.put, List.setIfInBounds_toArray, List.set_cons_zero, List.set_cons_succ, i64_w, i32_w]
        rfl
      refine pure_ (i := 4) (N := some 30) (v := ?_) (a' := ?_) #[true, true, true, false, true, false, false, false, false, false] rfl rfl (by kernel_rfl) (fun _ _ _ h => h) (Or.inl ⟨by rfl, ?_⟩) ?_ ?_
      rotate_left
      · intro w'
        go_simp
        with_reducible rfl
      rotate_left
      · simp only [Act.put, List.setIfInBounds_toArray, List.set_cons_zero, List.set_cons_succ, i64_w, i32_w]
        rfl
      refine pure_ (i := 5) (N := some 31) (v := ?_) (a' := ?_) #[true, true, true, false, true, true, false, false, false, false] rfl rfl (by kernel_rfl) (fun _ _ _ h => h) (Or.inl ⟨by rfl, ?_⟩) ?_ ?_
      rotate_left
      · intro w'
        go_simp
        with_reducible rfl
      rotate_left
      · simp only [Act.put, List.setIfInBounds_toArray, List.set_cons_zero, List.set_cons_succ, i64_w, i32_w]
        rfl
      refine pure_ (i := 6) (N := some 32) (v := ?_) (a' := ?_) #[true, true, true, false, true, true, true, false, false, false] rfl rfl (by kernel_rfl) (fun _ _ _ h => h) (Or.inl ⟨by rfl, ?_⟩) ?_ ?_
      rotate_left
      · intro w'
        go_simp
        with_reducible rfl
      rotate_left
      · simp only [Act.put, List.setIfInBounds_toArray, List.set_cons_zero, List.set_cons_succ, i64_w, i32_w]
        rfl
      refine take_ (i := 3) (N := some 29) (v := ?_) (a' := ?_) #[true, true, true, true, true, true, true, false, false, false] rfl rfl (by kernel_rfl) (fun _ _ _ h => h) (Or.inl ⟨by rfl, ?_⟩) hHeld ?_ ?_
      rotate_left
      · rintro w' ⟨s0, s1⟩
        go_simp
        with_reducible rfl
      rotate_left
      · simp only [Act.put, List.setIfInBounds_toArray, List.set_cons_zero, List.set_cons_succ, i64_w, i32_w]
        rfl
      refine take_ (i := 7) (N := some 33) (v := ?_) (a' := ?_) #[true, true, true, true, true, true, true, true, false, false] rfl rfl (by kernel_rfl) (fun _ _ _ h => h) (Or.inl ⟨by rfl, ?_⟩) hHeld ?_ ?_
      rotate_left
      · rintro w' ⟨s0, s1⟩
        go_simp
        with_reducible rfl
      rotate_left
      · simp only [Act.put, List.setIfInBounds_toArray, List.set_cons_zero, List.set_cons_succ, i64_w, i32_w]
        rfl
      refine pure_ (i := 8) (N := some 34) (v := ?_) (a' := ?_) #[true, true, true, true, true, true, true, true, true, false] rfl rfl (by kernel_rfl) (fun _ _ _ h => h) (Or.inl ⟨by rfl, ?_⟩) ?_ ?_
      rotate_left
      · intro w'
        go_simp
        with_reducible rfl
      rotate_left
      · simp only [Act.put, List.setIfInBounds_toArray, List.set_cons_zero, List.set_cons_succ, i64_w, i32_w]
        rfl
      refine pure_ (i := 9) (N := some 35) (v := ?_) (a' := ?_) #[true, true, true, true, true, true, true, true, true, true] rfl rfl (by kernel_rfl) (fun _ _ _ h => h) (Or.inl ⟨by rfl, ?_⟩) ?_ ?_
      rotate_left
      · intro w'
        go_simp
        with_reducible rfl
      rotate_left
      · simp only [Act.put, List.setIfInBounds_toArray, List.set_cons_zero, List.set_cons_succ, i64_w, i32_w]
        rfl
      refine done_ (by kernel_rfl) ?_

      go_wp2
      generalize hwq : World.drew (World.drew w1) = Wq
      obtain ⟨v3, fr2, buf3, hP⟩ : ∃ v3 fr2 buf3, PQ W Wq base ok g room l v3 fr2 dr buf3 x := ⟨.slice B buf.length cv, fr, buf, by rw [← hwq]; exact ⟨HQ1.out.move (fun _ _ _ => rfl) (fun _ h _ => h), HGr.out, (HM1.out.drew).drew, HB1.out⟩⟩
      have HP := Aside0.mk hP
      clear HQ1 HM1 HB1 HGr r0 r1 r3 hwq hP
      obtain ⟨b, cb, hv, hbl, _, hob, x0, x1, f0, f1⟩ := row_cells HP.out.q.row (j := (fr2 + l.length) % buf3.length) (Nat.mod_lt _ (by have := HP.out.room_; omega))
      subst hv
      have q1 : Wq.cell? ⟨g, 1, none⟩ = some (.slice (some ⟨b, 0, none⟩) buf3.length cb) := blk_cell HP.out.q.box 1
      have q2 : Wq.cell? ⟨g, 2, none⟩ = some (.int .i64 (fr2 : Int)) := blk_cell HP.out.q.box 2
      have q3 : Wq.cell? ⟨g, 3, none⟩ = some (.int .i64 (l.length : Int)) := blk_cell HP.out.q.box 3
      have p3 : Wq.frozen? ⟨g, 3, none⟩ = false := blk_frozen HP.out.q.box 3
      have m0 : Wq.cell? ⟨W.heap.size, 0, none⟩ = some (.int .i64 x.1) := blk_cell HP.out.box 0
      have m1 : Wq.cell? ⟨W.heap.size, 1, none⟩ = some (.string x.2) := blk_cell HP.out.box 1
      have n0 : (b = g) = False := eq_false hob.2
      have n1 : (g = b) = False := eq_false (Ne.symm hob.2)
      have b64 : buf3.length ≤ 64 := Nat.le_trans HP.out.q.short HP.out.q.room1
      have hfr := HP.out.q.ring.from_
      have hlr := HP.out.room_
      have e1 : wrap64 ((fr2 : Int) + (l.length : Int)) = (fr2 : Int) + (l.length : Int) := wrap_add (by omega)
      have e3 : (buf3.length = 0) = False := eq_false (by omega)
      have e5 : wrap64 ((l.length : Int) + 1) = (l.length : Int) + 1 := by unfold wrap64; omega
      have hj : (fr2 + l.length) % buf3.length < buf3.length := Nat.mod_lt _ (Nat.lt_of_le_of_lt (Nat.zero_le _) hlr)
      have e2 : Int.tmod ((fr2 : Int) + (l.length : Int)) (buf3.length : Int) = (((fr2 + l.length) % buf3.length : Nat) : Int) := tmod_nat (fr2 + l.length) buf3.length
      have HL := Aside0.mk (fun (W' : World) hW => PQ.last HP.out.drew HLT.out hob.1 (W' := W') hW hob.2)
      clear hfr hlr
      generalize hy : buf3[(fr2 + l.length) % buf3.length] = y at x0 x1
      clear hy
      generalize (fr2 + l.length) % buf3.length = m at *
      generalize hn : buf3.length = n at *
      clear hn
      refine start_ (n := 22) (S := fun w' => w'.cell? ⟨g, 1, none⟩ = some (.slice (some ⟨b, 0, none⟩) n cb) ∧ w'.cell? ⟨g, 2, none⟩ = some (.int .i64 (fr2 : Int)) ∧ w'.cell? ⟨g, 3, none⟩ = some (.int .i64 (l.length : Int)) ∧ w'.cell? ⟨W.heap.size, 0, none⟩ = some (.int .i64 x.1) ∧ w'.cell? ⟨W.heap.size, 1, none⟩ = some (.string x.2)) (ds := [21]) #[false, false, false, false, false, false, false, false, false, false, false, false, false, false, false, false, false, false, false, false, false, false] (by kernel_rfl) rfl rfl ⟨q1, q2, q3, m0, m1⟩ (fun hHeld => ?_)
      refine pure_ (i := 0) (N := some 38) (v := ?_) (a' := ?_) #[true, false, false, false, false, false, false, false, false, false, false, false, false, false, false, false, false, false, false, false, false, false] rfl rfl (by kernel_rfl) (fun _ _ _ h => h) (Or.inl ⟨by rfl, ?_⟩) ?_ ?_
      rotate_left
      · intro w'
        go_simp
        with_reducible rfl
      rotate_left
      · simp only [Act.put, List.setIfInBounds_toArray, List.set_cons_zero, List.set_cons_succ, i64_w, i32_w]
        rfl
      refine pure_ (i := 1) (N := some 39) (v := ?_) (a' := ?_) #[true, true, false, false, false, false, false, false, false, false, false, false, false, false, false, false, false, false, false, false, false, false] rfl rfl (by kernel_rfl) (fun _ _ _ h => h) (Or.inl ⟨by rfl, ?_⟩) ?_ ?_
      rotate_left
      · intro w'
        go_simp
        with_reducible rfl
      rotate_left
      · simp only [Act.put, List.setIfInBounds_toArray, List.set_cons_zero, List.set_cons_succ, i64_w, i32_w]
        rfl
      refine pure_ (i := 2) (N := some 40) (v := ?_) (a' := ?_) #[true, true, true, false, false, false, false, false, false, false, false, false, false, false, false, false, false, false, false, false, false, false] rfl rfl (by kernel_rfl) (fun _ _ _ h => h) (Or.inl ⟨by rfl, ?_⟩) ?_ ?_
      rotate_left
      · intro w'
        go_simp
        with_reducible rfl
      rotate_left
      · simp only [Act.put, List.setIfInBounds_toArray, List.set_cons_zero, List.set_cons_succ, i64_w, i32_w]
        rfl
      refine pure_ (i := 4) (N := some 42) (v := ?_) (a' := ?_) #[true, true, true, false, true, false, false, false, false, false, false, false, false, false, false, false, false, false, false, false, false, false] rfl rfl (by kernel_rfl) (fun _ _ _ h => h) (Or.inl ⟨by rfl, ?_⟩) ?_ ?_
      rotate_left
      · intro w'
        go_simp
        with_reducible rfl
      rotate_left
      · simp only [Act.put, List.setIfInBounds_toArray, List.set_cons_zero, List.set_cons_succ, i64_w, i32_w]
        rfl
      refine pure_ (i := 5) (N := some 43) (v := ?_) (a' := ?_) #[true, true, true, false, true, true, false, false, false, false, false, false, false, false, false, false, false, false, false, false, false, false] rfl rfl (by kernel_rfl) (fun _ _ _ h => h) (Or.inl ⟨by rfl, ?_⟩) ?_ ?_
      rotate_left
      · intro w'
        go_simp
        with_reducible rfl
      rotate_left
      · simp only [Act.put, List.setIfInBounds_toArray, List.set_cons_zero, List.set_cons_succ, i64_w, i32_w]
        rfl
      refine pure_ (i := 6) (N := some 44) (v := ?_) (a' := ?_) #[true, true, true, false, true, true, true, false, false, false, false, false, false, false, false, false, false, false, false, false, false, false] rfl rfl (by kernel_rfl) (fun _ _ _ h => h) (Or.inl ⟨by rfl, ?_⟩) ?_ ?_
      rotate_left
      · intro w'
        go_simp
        with_reducible rfl
      rotate_left
      · simp only [Act.put, List.setIfInBounds_toArray, List.set_cons_zero, List.set_cons_succ, i64_w, i32_w]
        rfl
      refine pure_ (i := 8) (N := some 46) (v := ?_) (a' := ?_) #[true, true, true, false, true, true, true, false, true, false, false, false, false, false, false, false, false, false, false, false, false, false] rfl rfl (by kernel_rfl) (fun _ _ _ h => h) (Or.inl ⟨by rfl, ?_⟩) ?_ ?_
      rotate_left
      · intro w'
        go_simp
        with_reducible rfl
      rotate_left
      · simp only [Act.put, List.setIfInBounds_toArray, List.set_cons_zero, List.set_cons_succ, i64_w, i32_w]
        rfl
      refine pure_ (i := 9) (N := some 47) (v := ?_) (a' := ?_) #[true, true, true, false, true, true, true, false, true, true, false, false, false, false, false, false, false, false, false, false, false, false] rfl rfl (by kernel_rfl) (fun _ _ _ h => h) (Or.inl ⟨by rfl, ?_⟩) ?_ ?_
      rotate_left
      · intro w'
        go_simp
        with_reducible rfl
      rotate_left
      · simp only [Act.put, List.setIfInBounds_toArray, List.set_cons_zero, List.set_cons_succ, i64_w, i32_w]
        rfl
      refine pure_ (i := 10) (N := some 48) (v := ?_) (a' := ?_) #[true, true, true, false, true, true, true, false, true, true, true, false, false, false, false, false, false, false, false, false, false, false] rfl rfl (by kernel_rfl) (fun _ _ _ h => h) (Or.inl ⟨by rfl, ?_⟩) ?_ ?_
      rotate_left
      · intro w'
        go_simp
        with_reducible rfl
      rotate_left
      · simp only [Act.put, List.setIfInBounds_toArray, List.set_cons_zero, List.set_cons_succ, i64_w, i32_w]
        rfl
      refine pure_ (i := 13) (N := some 51) (v := ?_) (a' := ?_) #[true, true, true, false, true, true, true, false, true, true, true, false, false, true, false, false, false, false, false, false, false, false] rfl rfl (by kernel_rfl) (fun _ _ _ h => h) (Or.inl ⟨by rfl, ?_⟩) ?_ ?_
      rotate_left
      · intro w'
        go_simp
        with_reducible rfl
      rotate_left
      · simp only [Act.put, List.setIfInBounds_toArray, List.set_cons_zero, List.set_cons_succ, i64_w, i32_w]
        rfl
      refine pure_ (i := 14) (N := some 52) (v := ?_) (a' := ?_) #[true, true, true, false, true, true, true, false, true, true, true, false, false, true, true, false, false, false, false, false, false, false] rfl rfl (by kernel_rfl) (fun _ _ _ h => h) (Or.inl ⟨by rfl, ?_⟩) ?_ ?_
      rotate_left
      · intro w'
        go_simp
        with_reducible rfl
      rotate_left
      · simp only [Act.put, List.setIfInBounds_toArray, List.set_cons_zero, List.set_cons_succ, i64_w, i32_w]
        rfl
      refine pure_ (i := 15) (N := some 53) (v := ?_) (a' := ?_) #[true, true, true, false, true, true, true, false, true, true, true, false, false, true, true, true, false, false, false, false, false, false] rfl rfl (by kernel_rfl) (fun _ _ _ h => h) (Or.inl ⟨by rfl, ?_⟩) ?_ ?_
      rotate_left
      · intro w'
        go_simp
        with_reducible rfl
      rotate_left
      · simp only [Act.put, List.setIfInBounds_toArray, List.set_cons_zero, List.set_cons_succ, i64_w, i32_w]
        rfl
      refine take_ (i := 3) (N := some 41) (v := ?_) (a' := ?_) #[true, true, true, true, true, true, true, false, true, true, true, false, false, true, true, true, false, false, false, false, false, false] rfl rfl (by kernel_rfl) (fun _ _ _ h => h) (Or.inl ⟨by rfl, ?_⟩) hHeld ?_ ?_
      rotate_left
      · rintro w' ⟨s0, s1, s2, s3, s4⟩
        go_simp
        with_reducible rfl
      rotate_left
      · simp only [Act.put, List.setIfInBounds_toArray, List.set_cons_zero, List.set_cons_succ, i64_w, i32_w]
        rfl
      refine take_ (i := 7) (N := some 45) (v := ?_) (a' := ?_) #[true, true, true, true, true, true, true, true, true, true, true, false, false, true, true, true, false, false, false, false, false, false] rfl rfl (by kernel_rfl) (fun _ _ _ h => h) (Or.inl ⟨by rfl, ?_⟩) hHeld ?_ ?_
      rotate_left
      · rintro w' ⟨s0, s1, s2, s3, s4⟩
        go_simp
        with_reducible rfl
      rotate_left
      · simp only [Act.put, List.setIfInBounds_toArray, List.set_cons_zero, List.set_cons_succ, i64_w, i32_w]
        rfl
      refine take_ (i := 11) (N := some 49) (v := ?_) (a' := ?_) #[true, true, true, true, true, true, true, true, true, true, true, true, false, true, true, true, false, false, false, false, false, false] rfl rfl (by kernel_rfl) (fun _ _ _ h => h) (Or.inl ⟨by rfl, ?_⟩) hHeld ?_ ?_
      rotate_left
      · rintro w' ⟨s0, s1, s2, s3, s4⟩
        go_simp
        with_reducible rfl
      rotate_left
      · simp only [Act.put, List.setIfInBounds_toArray, List.set_cons_zero, List.set_cons_succ, i64_w, i32_w]
        rfl
      refine pure_ (i := 12) (N := some 50) (v := ?_) (a' := ?_) #[true, true, true, true, true, true, true, true, true, true, true, true, true, true, true, true, false, false, false, false, false, false] rfl rfl (by kernel_rfl) (fun _ _ _ h => h) (Or.inl ⟨by rfl, ?_⟩) ?_ ?_
      rotate_left
      · intro w'
        go_simp
        with_reducible rfl
      rotate_left
      · simp only [Act.put, List.setIfInBounds_toArray, List.set_cons_zero, List.set_cons_succ, i64_w, i32_w]
        rfl
      refine take_ (i := 16) (N := some 54) (v := ?_) (a' := ?_) #[true, true, true, true, true, true, true, true, true, true, true, true, true, true, true, true, true, false, false, false, false, false] rfl rfl (by kernel_rfl) (fun _ _ _ h => h) (Or.inl ⟨by rfl, ?_⟩) hHeld ?_ ?_
      rotate_left
      · rintro w' ⟨s0, s1, s2, s3, s4⟩
        go_simp
        with_reducible rfl
      rotate_left
      · simp only [Act.put, List.setIfInBounds_toArray, List.set_cons_zero, List.set_cons_succ, i64_w, i32_w]
        rfl
      refine pure_ (i := 17) (N := some 55) (v := ?_) (a' := ?_) #[true, true, true, true, true, true, true, true, true, true, true, true, true, true, true, true, true, true, false, false, false, false] rfl rfl (by kernel_rfl) (fun _ _ _ h => h) (Or.inl ⟨by rfl, ?_⟩) ?_ ?_
      rotate_left
      · intro w'
        go_simp
        with_reducible rfl
      rotate_left
      · simp only [Act.put, List.setIfInBounds_toArray, List.set_cons_zero, List.set_cons_succ, i64_w, i32_w]
        rfl
      refine pure_ (i := 18) (N := some 56) (v := ?_) (a' := ?_) #[true, true, true, true, true, true, true, true, true, true, true, true, true, true, true, true, true, true, true, false, false, false] rfl rfl (by kernel_rfl) (fun _ _ _ h => h) (Or.inl ⟨by rfl, ?_⟩) ?_ ?_
      rotate_left
      · intro w'
        go_simp
        with_reducible rfl
      rotate_left
      · simp only [Act.put, List.setIfInBounds_toArray, List.set_cons_zero, List.set_cons_succ, i64_w, i32_w]
        rfl
      refine take_ (i := 19) (N := some 57) (v := ?_) (a' := ?_) #[true, true, true, true, true, true, true, true, true, true, true, true, true, true, true, true, true, true, true, true, false, false] rfl rfl (by kernel_rfl) (fun _ _ _ h => h) (Or.inl ⟨by rfl, ?_⟩) hHeld ?_ ?_
      rotate_left
      · rintro w' ⟨s0, s1, s2, s3, s4⟩
        go_simp
        with_reducible rfl
      rotate_left
      · simp only [Act.put, List.setIfInBounds_toArray, List.set_cons_zero, List.set_cons_succ, i64_w, i32_w]
        rfl
      refine pure_ (i := 20) (N := some 58) (v := ?_) (a' := ?_) #[true, true, true, true, true, true, true, true, true, true, true, true, true, true, true, true, true, true, true, true, true, false] rfl rfl (by kernel_rfl) (fun _ _ _ h => h) (Or.inl ⟨by rfl, ?_⟩) ?_ ?_
      rotate_left
      · intro w'
        go_simp
        with_reducible rfl
      rotate_left
      · simp only [Act.put, List.setIfInBounds_toArray, List.set_cons_zero, List.set_cons_succ, i64_w, i32_w]
        rfl
      refine last_ (i := 21) (N := none) #[true, true, true, true, true, true, true, true, true, true, true, true, true, true, true, true, true, true, true, true, true, true] rfl rfl (by kernel_rfl) (by decide) (fun K hK => ?_)
      refine skip_ (w1 := ((Wq.drew.setCell ⟨b, m * 2, none⟩ (.int .i64 x.1)).setCell ⟨b, m * 2 + 1, none⟩ (.string x.2))) (by rfl) rfl ?_ ?_
      · go_simp
        try rfl
      refine hK.out _ _ ?_
      clear hK K
      refine done_ (by kernel_rfl) ?_

      clear e2
      generalize hW3 : World.setCell (World.setCell (World.drew Wq) _ _) _ _ = W3
      have s3 : W3.cell? ⟨g, 3, none⟩ = some (.int .i64 (l.length : Int)) := by rw [← hW3]; exact (cell_far (a := ⟨g, 3, none⟩) (p := ⟨b, m * 2 + 1, none⟩) (Ne.symm hob.2) _).trans ((cell_far (a := ⟨g, 3, none⟩) (p := ⟨b, m * 2, none⟩) (Ne.symm hob.2) _).trans q3)
      have t3 : W3.frozen? ⟨g, 3, none⟩ = false := by rw [← hW3, World.frozen?_setCell, World.frozen?_setCell]; exact p3
      have HW3 := Aside0.mk hW3
      clear x0 x1 f0 f1 q1 q2 q3 p3 m0 m1 n0 n1 hW3 hbl e1 e3 hj b64
      go_wp2
      go_ret
      rw [← HW3.out]
      exact HL.out _ rfl
end
end Go.Proofs.Ytclhddldbfdfdaa.PoW
namespace Go.Proofs.Ytclhddldbfdfdaa.PoW
open Go.RowKit Go.Proofs.YtclhddldbfdfdaaW.PrintWords Go.Proofs.YtclhddldbfdfdaaW.PrintMore Go.Proofs.YtclhddldbfdfdaaW.PrintLast
set_option linter.unusedVariables false
set_option linter.unusedSimpArgs false
section
variable {W : World} {base : Nat} {ok : Nat → Prop} {g room : Nat} {l : List Msg} {v : Value} {fr : Nat} {dr : Int} {buf : List Msg}
def PopPost (W : World) (base : Nat) (ok : Nat → Prop) (g room : Nat) (x : Msg) (l : List Msg) (e : Ending) (W' : World) : Prop := e = .returned (.tuple #[.agg #[.int .i64 x.1, .string x.2], .bool true]) ∧ QAt W' base ok g room l ∧ Mod W W' ok
set_option maxHeartbeats 4000000 in
set_option maxRecDepth 100000 in
theorem pop_nil (h : QAt W base ok g room []) : Calls Try.prog 26 #[.pointer (some ⟨g, 0, none⟩)] W fun e W' => e = .returned (.tuple #[.agg #[.int .i64 0, .string ⟨#[]⟩], .bool false]) ∧ Below W.heap.size W W' := by
  obtain ⟨v, fr, dr, buf, h⟩ := h
  have HX := Aside0.mk (show ∀ W1, W.alloc (.cells #[.int .i64 0, .string ⟨#[]⟩] 37) = W1 → QIn W1 base ok g room [] v fr dr buf ∧ Below W.heap.size W W1 ∧ W1.heap[W.heap.size]? = some (.cells #[.int .i64 0, .string ⟨#[]⟩] 37 (0, 0)) from fun W1 e => by
    subst e
    have hb := below_alloc (Below.refl W.heap.size W) (.cells #[.int .i64 0, .string ⟨#[]⟩] 37)
    exact ⟨h.move (fun k _ hk => hb.block k hk) (fun _ h _ => h), hb, heap_alloc_new W _⟩)
  clear h
  go_enter Try.func26, Try.ntmps26
  go_wp2_with (go_at_call 38; (with_reducible refine (QIn.given (HX.out _ rfl).1).mono ?_); rintro e w1 ⟨rfl, hw⟩; obtain ⟨hq, hm, hx⟩ := HX.out w1 hw; have HM1 := Aside0.mk hm; have r3 : w1.cell? ⟨g, 3, none⟩ = some (.int .i64 0) := blk_cell hq.box 3; have m0 : w1.cell? ⟨W.heap.size, 0, none⟩ = some (.int .i64 0) := blk_cell hx 0; have m1 : w1.cell? ⟨W.heap.size, 1, none⟩ = some (.string ⟨#[]⟩) := blk_cell hx 1; have f0 : w1.frozen? ⟨W.heap.size, 0, none⟩ = false := blk_frozen hx 0; have f1 : w1.frozen? ⟨W.heap.size, 1, none⟩ = false := blk_frozen hx 1; clear hq hm hx HX hw)
  exact bodyPost_ret (v := .tuple #[.agg #[.int .i64 0, .string ⟨#[]⟩], .bool false]) (by simp [results, Try.results26, go_sem, m0, m1]) rfl ⟨rfl, (HM1.out.setCell (p := ⟨W.heap.size, 0, none⟩) (Nat.le_refl _) _).setCell (p := ⟨W.heap.size, 1, none⟩) (Nat.le_refl _) _⟩
theorem far2 {w : World} {k j a : Nat} {u u0 u1 : Value} (h : k ≠ a) (hc : w.cell? ⟨k, j, none⟩ = some u) : ((w.drew.setCell ⟨a, 0, none⟩ u0).setCell ⟨a, 1, none⟩ u1).cell? ⟨k, j, none⟩ = some u := by
  rw [cell_far (a := ⟨k, j, none⟩) (p := ⟨a, 1, none⟩) h, cell_far (a := ⟨k, j, none⟩) (p := ⟨a, 0, none⟩) h]
  exact hc
theorem PopPost.drew {x : Msg} {e : Ending} {W W' : World} (h : PopPost W base ok g room x l e W') : PopPost W base ok g room x l e W'.drew := ⟨h.1, h.2.1.move (fun _ _ _ => rfl) (fun _ h _ => h), h.2.2.drew⟩
/-- Ahead of the two stores. -/
structure P3 (W W2 : World) (base : Nat) (ok : Nat → Prop) (g room : Nat) (l : List Msg) (v : Value) (fr : Nat) (dr : Int) (buf : List Msg) : Prop where
  q : QIn W2 base (fun k => ok k ∧ k < W.heap.size) g room l v fr dr buf
  below : Below W.heap.size W W2
  bx : W2.heap[W.heap.size]? = some (.cells #[.int .i64 0, .string ⟨#[]⟩] 37 (0, 0))
  bz : W2.heap[W.heap.size + 1]? = some (.cells #[.int .i64 0, .string ⟨#[]⟩] 37 (0, 0))
/-- Behind them. -/
structure P4 (W W4 : World) (base : Nat) (ok : Nat → Prop) (g room : Nat) (x : Msg) (l : List Msg) (v : Value) (fr : Nat) (dr : Int) (buf : List Msg) : Prop where
  box : W4.heap[g]? = some (.cells #[.int .i64 (room : Int), v, .int .i64 (fr : Int), .int .i64 ((l.length : Int) + 1), .int .i64 dr] 85 (0, 0))
  row : Kd.R kM 37 W4 base (fun k => (ok k ∧ k < W.heap.size) ∧ k ≠ g) v (buf.set fr z)
  bx : W4.heap[W.heap.size]? = some (.cells #[.int .i64 x.1, .string x.2] 37 (0, 0))
  mod : Mod W W4 ok
  gl : g < W.heap.size
theorem P3.stores {W W2 : World} {x : Msg} {b c : Nat} (h : P3 W W2 base ok g room (x :: l) (.slice (some ⟨b, 0, none⟩) buf.length c) fr dr buf) (hb : ok b ∧ b < W.heap.size) (hbg : b ≠ g) {W4 : World}
    (hW : W4 = ((((W2.setCell ⟨W.heap.size, 0, none⟩ (.int .i64 x.1)).setCell ⟨W.heap.size, 1, none⟩ (.string x.2)).setCell ⟨b, fr * 2, none⟩ (.int .i64 0)).setCell ⟨b, fr * 2 + 1, none⟩ (.string ⟨#[]⟩))) : P4 W W4 base ok g room x l (.slice (some ⟨b, 0, none⟩) buf.length c) fr dr buf := by
  subst hW
  have hgl := h.q.okg.2
  have hfr := h.q.ring.head.1
  refine ⟨?_, ?_, ?_, ?_, hgl⟩
  · have := h.q.box
    rw [List.length_cons] at this
    exact blk_far (blk_far (blk_far (blk_far this (by show g ≠ W.heap.size; omega) _) (by show g ≠ W.heap.size; omega) _) (Ne.symm hbg) _) (Ne.symm hbg) _
  · exact put2 (Kd.R_far (Kd.R_far h.q.row (fun k hk => by show k ≠ W.heap.size; have := hk.1.2; omega) _) (fun k hk => by show k ≠ W.heap.size; have := hk.1.2; omega) _) hfr z
  · exact blk_far (blk_far (blk_set (blk_set h.bx 0 (.int .i64 x.1)) 1 (.string x.2)) (by show W.heap.size ≠ b; omega) _) (by show W.heap.size ≠ b; omega) _
  · exact ((((Mod.of_below h.below ok).set _ _ (.inr (Nat.le_refl _))).set _ _ (.inr (Nat.le_refl _))).set _ _ (.inl hb.1)).set _ _ (.inl hb.1)
theorem P4.last {W W4 : World} {x : Msg} {n c : Nat} (h : P4 W W4 base ok g room x l v fr dr buf) (hr : Ring buf fr (x :: l)) (hsh : buf.length ≤ room) (hd : 0 ≤ dr ∧ dr ≤ 4611686018427387904) (hrm : 0 < room ∧ room ≤ 64) (hg : ok g) {W' : World}
    (hW : W' = ((((W4.setCell ⟨g, 2, none⟩ (.int .i64 (((fr + 1) % buf.length : Nat) : Int))).setCell ⟨g, 3, none⟩ (.int .i64 (l.length : Int))).setCell ⟨W.heap.size, 0, none⟩ (.int .i64 x.1)).setCell ⟨W.heap.size, 1, none⟩ (.string x.2))) : PopPost W base ok g room x l (.returned (.tuple #[.agg #[.int .i64 x.1, .string x.2], .bool true])) W' := by
  subst hW
  have hgl := h.gl
  refine ⟨rfl, ⟨v, (fr + 1) % buf.length, dr, buf.set fr z, ?_, ?_, hr.pop z, by rw [List.length_set]; exact hsh, hd.1, hd.2, hg, hrm.1, hrm.2⟩, ?_⟩
  · exact blk_far (blk_far (blk_set (blk_set h.box 2 (.int .i64 (((fr + 1) % buf.length : Nat) : Int))) 3 (.int .i64 (l.length : Int))) (by show g ≠ W.heap.size; omega) _) (by show g ≠ W.heap.size; omega) _
  · refine Kd.R_mono (Kd.R_far (Kd.R_far (Kd.R_far (Kd.R_far h.row (fun k hk => hk.2) _) (fun k hk => hk.2) _) (fun k hk => ?_) _) (fun k hk => ?_) _) (fun k hk => ⟨hk.1.1, hk.2⟩)
    · show k ≠ W.heap.size; have := hk.1.2; omega
    · show k ≠ W.heap.size; have := hk.1.2; omega
  · exact ((((h.mod.set _ _ (.inl hg)).set _ _ (.inl hg)).set _ _ (.inr (Nat.le_refl _))).set _ _ (.inr (Nat.le_refl _)))
set_option maxHeartbeats 4000000 in
set_option maxRecDepth 100000 in
theorem pop_calls {x : Msg} (h : QAt W base ok g room (x :: l)) : Calls Try.prog 26 #[.pointer (some ⟨g, 0, none⟩)] W (PopPost W base ok g room x l) := by
  obtain ⟨v, fr, dr, buf, h⟩ := h
  have hgl := h.lt
  have HX := Aside0.mk (show ∀ W1, W.alloc (.cells #[.int .i64 0, .string ⟨#[]⟩] 37) = W1 → QIn W1 base (fun k => ok k ∧ k < W.heap.size) g room (x :: l) v fr dr buf ∧ W1.heap.size = W.heap.size + 1 ∧ P3 W (W1.alloc (.cells #[.int .i64 0, .string ⟨#[]⟩] 37)) base ok g room (x :: l) v fr dr buf from fun W1 e => by
    subst e
    have hb := below_alloc (Below.refl W.heap.size W) (.cells #[.int .i64 0, .string ⟨#[]⟩] 37)
    have hb2 := below_alloc hb (.cells #[.int .i64 0, .string ⟨#[]⟩] 37)
    have hn := heap_alloc_new (W.alloc (.cells #[.int .i64 0, .string ⟨#[]⟩] 37)) (.cells #[.int .i64 0, .string ⟨#[]⟩] 37)
    rw [World.size_alloc] at hn
    exact ⟨h.move (fun k _ hk => hb.block k hk) (fun k h hk => ⟨h, hk⟩), by simp, h.move (fun k _ hk => hb2.block k hk) (fun k h hk => ⟨h, hk⟩), hb2, blk_alloc (heap_alloc_new W _) _, hn⟩)
  have hrf := h.ring.fits
  rw [List.length_cons] at hrf
  have hr := h.ring
  have hfr := hr.head.1
  have b64 : buf.length ≤ 64 := Nat.le_trans h.short h.room1
  have HL := Aside0.mk (fun W4 (h4 : P4 W W4 base ok g room x l v fr dr buf) W' hW => P4.last (n := 0) (c := 0) h4 h.ring h.short ⟨h.dr0, h.dr1⟩ ⟨h.room0, h.room1⟩ h.okg (W' := W') hW)
  have HH := Aside0.mk hr.head
  have c0 : ((l.length : Int) + 1 == 0) = false := beq_false_of_ne (by omega)
  have c1 : decide ((l.length : Int) + 1 = 0) = false := decide_eq_false (by omega)
  clear h hr
  go_enter Try.func26, Try.ntmps26
  go_wp2_with (go_at_call 38; (with_reducible refine (QIn.given (HX.out _ rfl).1).mono ?_); rintro e w1 ⟨rfl, hw⟩; obtain ⟨hq, hz, h3⟩ := HX.out w1 hw; have H3 := Aside0.mk h3; have r3 : w1.cell? ⟨g, 3, none⟩ = some (.int .i64 ((l.length : Int) + 1)) := (blk_cell hq.box 3).trans (by rw [List.length_cons]; rfl); clear hq h3 HX hw)
  generalize hW2 : World.alloc w1 _ = W2
  have H3' := Aside0.mk (show P3 W W2 base ok g room (x :: l) v fr dr buf from hW2 ▸ H3.out)
  clear r3 H3 hW2
  obtain ⟨b, cb, hv, hbl, _, hob, x0, x1, f0, f1⟩ := row_cells H3'.out.q.row (j := fr) hfr
  subst hv
  have hx : buf[fr] = x := by have := HH.out.2; rw [List.getElem?_eq_getElem hfr] at this; exact Option.some.inj this
  rw [hx] at x0 x1
  clear hx
  have q1 : W2.cell? ⟨g, 1, none⟩ = some (.slice (some ⟨b, 0, none⟩) buf.length cb) := blk_cell H3'.out.q.box 1
  have q2 : W2.cell? ⟨g, 2, none⟩ = some (.int .i64 (fr : Int)) := blk_cell H3'.out.q.box 2
  have m0 : W2.cell? ⟨W.heap.size, 0, none⟩ = some (.int .i64 0) := blk_cell H3'.out.bx 0
  have m1 : W2.cell? ⟨W.heap.size, 1, none⟩ = some (.string ⟨#[]⟩) := blk_cell H3'.out.bx 1
  have k0 : W2.cell? ⟨W.heap.size + 1, 0, none⟩ = some (.int .i64 0) := blk_cell H3'.out.bz 0
  have k1 : W2.cell? ⟨W.heap.size + 1, 1, none⟩ = some (.string ⟨#[]⟩) := blk_cell H3'.out.bz 1
  have g0 : W2.frozen? ⟨W.heap.size, 0, none⟩ = false := blk_frozen H3'.out.bx 0
  have g1 : W2.frozen? ⟨W.heap.size, 1, none⟩ = false := blk_frozen H3'.out.bx 1
  have hgb : g ≠ W.heap.size := by omega
  have hbb : b ≠ W.heap.size := by have := hob.1.2; omega
  have hbs : W.heap.size + 1 ≠ W.heap.size := by omega
  have HP4 := Aside0.mk (fun (W4 : World) hW => P3.stores (W2 := W2.drew) ⟨H3'.out.q.move (fun _ _ _ => rfl) (fun _ h _ => h), below_drew H3'.out.below, H3'.out.bx, H3'.out.bz⟩ hob.1 hob.2 (W4 := W4) hW)
  refine start_ (n := 22) (S := fun w' => w'.cell? ⟨g, 1, none⟩ = some (.slice (some ⟨b, 0, none⟩) buf.length cb) ∧ w'.cell? ⟨g, 2, none⟩ = some (.int .i64 (fr : Int)) ∧ w'.cell? ⟨b, fr * 2, none⟩ = some (.int .i64 x.1) ∧ w'.cell? ⟨b, fr * 2 + 1, none⟩ = some (.string x.2) ∧ w'.cell? ⟨W.heap.size + 1, 0, none⟩ = some (.int .i64 0) ∧ w'.cell? ⟨W.heap.size + 1, 1, none⟩ = some (.string ⟨#[]⟩)) (ds := [21]) #[false, false, false, false, false, false, false, false, false, false, false, false, false, false, false, false, false, false, false, false, false, false] (by kernel_rfl) rfl rfl ⟨q1, q2, x0, x1, k0, k1⟩ (fun hHeld => ?_)
  refine pure_ (i := 0) (N := some 16) (v := ?_) (a' := ?_) #[true, false, false, false, false, false, false, false, false, false, false, false, false, false, false, false, false, false, false, false, false, false] rfl rfl (by kernel_rfl) (fun _ _ _ h => h) (Or.inl ⟨by rfl, ?_⟩) ?_ ?_
  rotate_left
  · intro w'
    go_simp
    with_reducible rfl
  rotate_left
  · simp only [Act.put, List.setIfInBounds_toArray, List.set_cons_zero, List.set_cons_succ, i64_w, i32_w]
    rfl
  refine pure_ (i := 1) (N := some 17) (v := ?_) (a' := ?_) #[true, true, false, false, false, false, false, false, false, false, false, false, false, false, false, false, false, false, false, false, false, false] rfl rfl (by kernel_rfl) (fun _ _ _ h => h) (Or.inl ⟨by rfl, ?_⟩) ?_ ?_
  rotate_left
  · intro w'
    go_simp
    with_reducible rfl
  rotate_left
  · simp only [Act.put, List.setIfInBounds_toArray, List.set_cons_zero, List.set_cons_succ, i64_w, i32_w]
    rfl
  refine pure_ (i := 2) (N := some 18) (v := ?_) (a' := ?_) #[true, true, true, false, false, false, false, false, false, false, false, false, false, false, false, false, false, false, false, false, false, false] rfl rfl (by kernel_rfl) (fun _ _ _ h => h) (Or.inl ⟨by rfl, ?_⟩) ?_ ?_
  rotate_left
  · intro w'
    go_simp
    with_reducible rfl
  rotate_left
  · simp only [Act.put, List.setIfInBounds_toArray, List.set_cons_zero, List.set_cons_succ, i64_w, i32_w]
    rfl
  refine pure_ (i := 4) (N := some 20) (v := ?_) (a' := ?_) #[true, true, true, false, true, false, false, false, false, false, false, false, false, false, false, false, false, false, false, false, false, false] rfl rfl (by kernel_rfl) (fun _ _ _ h => h) (Or.inl ⟨by rfl, ?_⟩) ?_ ?_
  rotate_left
  · intro w'
    go_simp
    with_reducible rfl
  rotate_left
  · simp only [Act.put, List.setIfInBounds_toArray, List.set_cons_zero, List.set_cons_succ, i64_w, i32_w]
    rfl
  refine pure_ (i := 5) (N := some 21) (v := ?_) (a' := ?_) #[true, true, true, false, true, true, false, false, false, false, false, false, false, false, false, false, false, false, false, false, false, false] rfl rfl (by kernel_rfl) (fun _ _ _ h => h) (Or.inl ⟨by rfl, ?_⟩) ?_ ?_
  rotate_left
  · intro w'
    go_simp
    with_reducible rfl
  rotate_left
  · simp only [Act.put, List.setIfInBounds_toArray, List.set_cons_zero, List.set_cons_succ, i64_w, i32_w]
    rfl
  refine pure_ (i := 6) (N := some 22) (v := ?_) (a' := ?_) #[true, true, true, false, true, true, true, false, false, false, false, false, false, false, false, false, false, false, false, false, false, false] rfl rfl (by kernel_rfl) (fun _ _ _ h => h) (Or.inl ⟨by rfl, ?_⟩) ?_ ?_
  rotate_left
  · intro w'
    go_simp
    with_reducible rfl
  rotate_left
  · simp only [Act.put, List.setIfInBounds_toArray, List.set_cons_zero, List.set_cons_succ, i64_w, i32_w]
    rfl
  refine pure_ (i := 8) (N := some 24) (v := ?_) (a' := ?_) #[true, true, true, false, true, true, true, false, true, false, false, false, false, false, false, false, false, false, false, false, false, false] rfl rfl (by kernel_rfl) (fun _ _ _ h => h) (Or.inl ⟨by rfl, ?_⟩) ?_ ?_
  rotate_left
  · intro w'
    go_simp
    with_reducible rfl
  rotate_left
  · simp only [Act.put, List.setIfInBounds_toArray, List.set_cons_zero, List.set_cons_succ, i64_w, i32_w]
    rfl
  refine pure_ (i := 9) (N := some 25) (v := ?_) (a' := ?_) #[true, true, true, false, true, true, true, false, true, true, false, false, false, false, false, false, false, false, false, false, false, false] rfl rfl (by kernel_rfl) (fun _ _ _ h => h) (Or.inl ⟨by rfl, ?_⟩) ?_ ?_
  rotate_left
  · intro w'
    go_simp
    with_reducible rfl
  rotate_left
  · simp only [Act.put, List.setIfInBounds_toArray, List.set_cons_zero, List.set_cons_succ, i64_w, i32_w]
    rfl
  refine pure_ (i := 10) (N := some 26) (v := ?_) (a' := ?_) #[true, true, true, false, true, true, true, false, true, true, true, false, false, false, false, false, false, false, false, false, false, false] rfl rfl (by kernel_rfl) (fun _ _ _ h => h) (Or.inl ⟨by rfl, ?_⟩) ?_ ?_
  rotate_left
  · intro w'
    go_simp
    with_reducible rfl
  rotate_left
  · simp only [Act.put, List.setIfInBounds_toArray, List.set_cons_zero, List.set_cons_succ, i64_w, i32_w]
    rfl
  refine pure_ (i := 12) (N := some 28) (v := ?_) (a' := ?_) #[true, true, true, false, true, true, true, false, true, true, true, false, true, false, false, false, false, false, false, false, false, false] rfl rfl (by kernel_rfl) (fun _ _ _ h => h) (Or.inl ⟨by rfl, ?_⟩) ?_ ?_
  rotate_left
  · intro w'
    go_simp
    with_reducible rfl
  rotate_left
  · simp only [Act.put, List.setIfInBounds_toArray, List.set_cons_zero, List.set_cons_succ, i64_w, i32_w]
    rfl
  refine pure_ (i := 13) (N := some 29) (v := ?_) (a' := ?_) #[true, true, true, false, true, true, true, false, true, true, true, false, true, true, false, false, false, false, false, false, false, false] rfl rfl (by kernel_rfl) (fun _ _ _ h => h) (Or.inl ⟨by rfl, ?_⟩) ?_ ?_
  rotate_left
  · intro w'
    go_simp
    with_reducible rfl
  rotate_left
  · simp only [Act.put, List.setIfInBounds_toArray, List.set_cons_zero, List.set_cons_succ, i64_w, i32_w]
    rfl
  refine pure_ (i := 14) (N := some 30) (v := ?_) (a' := ?_) #[true, true, true, false, true, true, true, false, true, true, true, false, true, true, true, false, false, false, false, false, false, false] rfl rfl (by kernel_rfl) (fun _ _ _ h => h) (Or.inl ⟨by rfl, ?_⟩) ?_ ?_
  rotate_left
  · intro w'
    go_simp
    with_reducible rfl
  rotate_left
  · simp only [Act.put, List.setIfInBounds_toArray, List.set_cons_zero, List.set_cons_succ, i64_w, i32_w]
    rfl
  refine take_ (i := 3) (N := some 19) (v := ?_) (a' := ?_) #[true, true, true, true, true, true, true, false, true, true, true, false, true, true, true, false, false, false, false, false, false, false] rfl rfl (by kernel_rfl) (fun _ _ _ h => h) (Or.inl ⟨by rfl, ?_⟩) hHeld ?_ ?_
  rotate_left
  · rintro w' ⟨s0, s1, s2, s3, s4, s5⟩
    go_simp
    with_reducible rfl
  rotate_left
  · simp only [Act.put, List.setIfInBounds_toArray, List.set_cons_zero, List.set_cons_succ, i64_w, i32_w]
    rfl
  refine take_ (i := 7) (N := some 23) (v := ?_) (a' := ?_) #[true, true, true, true, true, true, true, true, true, true, true, false, true, true, true, false, false, false, false, false, false, false] rfl rfl (by kernel_rfl) (fun _ _ _ h => h) (Or.inl ⟨by rfl, ?_⟩) hHeld ?_ ?_
  rotate_left
  · rintro w' ⟨s0, s1, s2, s3, s4, s5⟩
    go_simp
    with_reducible rfl
  rotate_left
  · simp only [Act.put, List.setIfInBounds_toArray, List.set_cons_zero, List.set_cons_succ, i64_w, i32_w]
    rfl
  refine take_ (i := 11) (N := some 27) (v := ?_) (a' := ?_) #[true, true, true, true, true, true, true, true, true, true, true, true, true, true, true, false, false, false, false, false, false, false] rfl rfl (by kernel_rfl) (fun _ _ _ h => h) (Or.inl ⟨by rfl, ?_⟩) hHeld ?_ ?_
  rotate_left
  · rintro w' ⟨s0, s1, s2, s3, s4, s5⟩
    go_simp
    with_reducible rfl
  rotate_left
  · simp only [Act.put, List.setIfInBounds_toArray, List.set_cons_zero, List.set_cons_succ, i64_w, i32_w]
    rfl
  refine take_ (i := 15) (N := some 31) (v := ?_) (a' := ?_) #[true, true, true, true, true, true, true, true, true, true, true, true, true, true, true, true, false, false, false, false, false, false] rfl rfl (by kernel_rfl) (fun _ _ _ h => h) (Or.inl ⟨by rfl, ?_⟩) hHeld ?_ ?_
  rotate_left
  · rintro w' ⟨s0, s1, s2, s3, s4, s5⟩
    go_simp
    with_reducible rfl
  rotate_left
  · simp only [Act.put, List.setIfInBounds_toArray, List.set_cons_zero, List.set_cons_succ, i64_w, i32_w]
    rfl
  refine pure_ (i := 16) (N := some 32) (v := ?_) (a' := ?_) #[true, true, true, true, true, true, true, true, true, true, true, true, true, true, true, true, true, false, false, false, false, false] rfl rfl (by kernel_rfl) (fun _ _ _ h => h) (Or.inl ⟨by rfl, ?_⟩) ?_ ?_
  rotate_left
  · intro w'
    go_simp
    with_reducible rfl
  rotate_left
  · simp only [Act.put, List.setIfInBounds_toArray, List.set_cons_zero, List.set_cons_succ, i64_w, i32_w]
    rfl
  refine take_ (i := 17) (N := some 33) (v := ?_) (a' := ?_) #[true, true, true, true, true, true, true, true, true, true, true, true, true, true, true, true, true, true, false, false, false, false] rfl rfl (by kernel_rfl) (fun _ _ _ h => h) (Or.inl ⟨by rfl, ?_⟩) hHeld ?_ ?_
  rotate_left
  · rintro w' ⟨s0, s1, s2, s3, s4, s5⟩
    go_simp
    with_reducible rfl
  rotate_left
  · simp only [Act.put, List.setIfInBounds_toArray, List.set_cons_zero, List.set_cons_succ, i64_w, i32_w]
    rfl
  refine take_ (i := 18) (N := some 34) (v := ?_) (a' := ?_) #[true, true, true, true, true, true, true, true, true, true, true, true, true, true, true, true, true, true, true, false, false, false] rfl rfl (by kernel_rfl) (fun _ _ _ h => h) (Or.inl ⟨by rfl, ?_⟩) hHeld ?_ ?_
  rotate_left
  · rintro w' ⟨s0, s1, s2, s3, s4, s5⟩
    go_simp
    with_reducible rfl
  rotate_left
  · simp only [Act.put, List.setIfInBounds_toArray, List.set_cons_zero, List.set_cons_succ, i64_w, i32_w]
    rfl
  refine one_ (i := 19) (N := none) #[true, true, true, true, true, true, true, true, true, true, true, true, true, true, true, true, true, true, true, true, false, false] rfl rfl (by kernel_rfl) (by decide) (fun K hK => ?_)
  refine skip_ (w1 := ((W2.drew.setCell ⟨W.heap.size, 0, none⟩ (.int .i64 x.1)).setCell ⟨W.heap.size, 1, none⟩ (.string x.2))) (by rfl) rfl ?_ ?_
  · go_simp
    try rfl
  refine hK.out _ _ ⟨far2 hgb q1, far2 hgb q2, far2 hbb x0, far2 hbb x1, far2 hbs k0, far2 hbs k1⟩ (fun hHeld => ?_)
  clear hK K
  refine pure_ (i := 20) (N := some 35) (v := ?_) (a' := ?_) #[true, true, true, true, true, true, true, true, true, true, true, true, true, true, true, true, true, true, true, true, true, false] rfl rfl (by kernel_rfl) (fun _ _ _ h => h) (Or.inl ⟨by rfl, ?_⟩) ?_ ?_
  rotate_left
  · intro w'
    go_simp
    with_reducible rfl
  rotate_left
  · simp only [Act.put, List.setIfInBounds_toArray, List.set_cons_zero, List.set_cons_succ, i64_w, i32_w]
    rfl
  refine last_ (i := 21) (N := none) #[true, true, true, true, true, true, true, true, true, true, true, true, true, true, true, true, true, true, true, true, true, true] rfl rfl (by kernel_rfl) (by decide) (fun K hK => ?_)
  refine skip_ (w1 := ((((W2.drew.setCell ⟨W.heap.size, 0, none⟩ (.int .i64 x.1)).setCell ⟨W.heap.size, 1, none⟩ (.string x.2)).setCell ⟨b, fr * 2, none⟩ (.int .i64 0)).setCell ⟨b, fr * 2 + 1, none⟩ (.string ⟨#[]⟩))) (by rfl) rfl ?_ ?_
  · go_simp
    try rfl
  refine hK.out _ _ ?_
  clear hK K
  refine done_ (by kernel_rfl) ?_

  generalize hW4 : World.setCell (World.setCell (World.setCell (World.setCell (World.drew W2) _ _) _ _) _ _) _ _ = W4
  have H4 := Aside0.mk (HP4.out W4 hW4.symm)
  clear hW4 HP4 H3' x0 x1 f0 f1 q1 q2 m0 m1 k0 k1 g0 g1
  have q1 : W4.cell? ⟨g, 1, none⟩ = some (.slice (some ⟨b, 0, none⟩) buf.length cb) := blk_cell H4.out.box 1
  have q2 : W4.cell? ⟨g, 2, none⟩ = some (.int .i64 (fr : Int)) := blk_cell H4.out.box 2
  have z2 : W4.frozen? ⟨g, 2, none⟩ = false := blk_frozen H4.out.box 2
  have q3 : W4.cell? ⟨g, 3, none⟩ = some (.int .i64 ((l.length : Int) + 1)) := blk_cell H4.out.box 3
  have z3 : W4.frozen? ⟨g, 3, none⟩ = false := blk_frozen H4.out.box 3
  have m0 : W4.cell? ⟨W.heap.size, 0, none⟩ = some (.int .i64 x.1) := blk_cell H4.out.bx 0
  have m1 : W4.cell? ⟨W.heap.size, 1, none⟩ = some (.string x.2) := blk_cell H4.out.bx 1
  have g0 : W4.frozen? ⟨W.heap.size, 0, none⟩ = false := blk_frozen H4.out.bx 0
  have g1 : W4.frozen? ⟨W.heap.size, 1, none⟩ = false := blk_frozen H4.out.bx 1
  have hgb' : (g = W.heap.size) = False := eq_false hgb
  have hgb2 : (W.heap.size = g) = False := eq_false (Ne.symm hgb)
  have e1 : wrap64 ((fr : Int) + 1) = (fr : Int) + 1 := by unfold wrap64; omega
  have e3 : (buf.length = 0) = False := eq_false (by omega)
  have e5 : wrap64 (l.length : Int) = (l.length : Int) := by unfold wrap64; omega
  have HLast := Aside0.mk (HL.out W4 H4.out)
  have e2 : Int.tmod ((fr : Int) + 1) (buf.length : Int) = (((fr + 1) % buf.length : Nat) : Int) := tmod_nat (fr + 1) buf.length
  clear hrf hfr b64 HH c0 c1 hz hob hgb hbb hbs HL H4 hbl
  generalize (fr + 1) % buf.length = f' at *
  go_wp2
  refine start_ (n := 15) (S := fun w' => w'.cell? ⟨g, 1, none⟩ = some (.slice (some ⟨b, 0, none⟩) buf.length cb) ∧ w'.cell? ⟨g, 2, none⟩ = some (.int .i64 (fr : Int))) (ds := [14]) #[false, false, false, false, false, false, false, false, false, false, false, false, false, false, false] (by kernel_rfl) rfl rfl ⟨q1, q2⟩ (fun hHeld => ?_)
  refine pure_ (i := 0) (N := some 36) (v := ?_) (a' := ?_) #[true, false, false, false, false, false, false, false, false, false, false, false, false, false, false] rfl rfl (by kernel_rfl) (fun _ _ _ h => h) (Or.inl ⟨by rfl, ?_⟩) ?_ ?_
  rotate_left
  · intro w'
    go_simp
    with_reducible rfl
  rotate_left
  · simp only [Act.put, List.setIfInBounds_toArray, List.set_cons_zero, List.set_cons_succ, i64_w, i32_w]
    rfl
  refine pure_ (i := 1) (N := some 37) (v := ?_) (a' := ?_) #[true, true, false, false, false, false, false, false, false, false, false, false, false, false, false] rfl rfl (by kernel_rfl) (fun _ _ _ h => h) (Or.inl ⟨by rfl, ?_⟩) ?_ ?_
  rotate_left
  · intro w'
    go_simp
    with_reducible rfl
  rotate_left
  · simp only [Act.put, List.setIfInBounds_toArray, List.set_cons_zero, List.set_cons_succ, i64_w, i32_w]
    rfl
  refine pure_ (i := 2) (N := some 38) (v := ?_) (a' := ?_) #[true, true, true, false, false, false, false, false, false, false, false, false, false, false, false] rfl rfl (by kernel_rfl) (fun _ _ _ h => h) (Or.inl ⟨by rfl, ?_⟩) ?_ ?_
  rotate_left
  · intro w'
    go_simp
    with_reducible rfl
  rotate_left
  · simp only [Act.put, List.setIfInBounds_toArray, List.set_cons_zero, List.set_cons_succ, i64_w, i32_w]
    rfl
  refine pure_ (i := 3) (N := some 39) (v := ?_) (a' := ?_) #[true, true, true, true, false, false, false, false, false, false, false, false, false, false, false] rfl rfl (by kernel_rfl) (fun _ _ _ h => h) (Or.inl ⟨by rfl, ?_⟩) ?_ ?_
  rotate_left
  · intro w'
    go_simp
    with_reducible rfl
  rotate_left
  · simp only [Act.put, List.setIfInBounds_toArray, List.set_cons_zero, List.set_cons_succ, i64_w, i32_w]
    rfl
  refine pure_ (i := 6) (N := some 42) (v := ?_) (a' := ?_) #[true, true, true, true, false, false, true, false, false, false, false, false, false, false, false] rfl rfl (by kernel_rfl) (fun _ _ _ h => h) (Or.inl ⟨by rfl, ?_⟩) ?_ ?_
  rotate_left
  · intro w'
    go_simp
    with_reducible rfl
  rotate_left
  · simp only [Act.put, List.setIfInBounds_toArray, List.set_cons_zero, List.set_cons_succ, i64_w, i32_w]
    rfl
  refine pure_ (i := 7) (N := some 43) (v := ?_) (a' := ?_) #[true, true, true, true, false, false, true, true, false, false, false, false, false, false, false] rfl rfl (by kernel_rfl) (fun _ _ _ h => h) (Or.inl ⟨by rfl, ?_⟩) ?_ ?_
  rotate_left
  · intro w'
    go_simp
    with_reducible rfl
  rotate_left
  · simp only [Act.put, List.setIfInBounds_toArray, List.set_cons_zero, List.set_cons_succ, i64_w, i32_w]
    rfl
  refine pure_ (i := 8) (N := some 44) (v := ?_) (a' := ?_) #[true, true, true, true, false, false, true, true, true, false, false, false, false, false, false] rfl rfl (by kernel_rfl) (fun _ _ _ h => h) (Or.inl ⟨by rfl, ?_⟩) ?_ ?_
  rotate_left
  · intro w'
    go_simp
    with_reducible rfl
  rotate_left
  · simp only [Act.put, List.setIfInBounds_toArray, List.set_cons_zero, List.set_cons_succ, i64_w, i32_w]
    rfl
  refine take_ (i := 4) (N := some 40) (v := ?_) (a' := ?_) #[true, true, true, true, true, false, true, true, true, false, false, false, false, false, false] rfl rfl (by kernel_rfl) (fun _ _ _ h => h) (Or.inl ⟨by rfl, ?_⟩) hHeld ?_ ?_
  rotate_left
  · rintro w' ⟨s0, s1⟩
    go_simp
    with_reducible rfl
  rotate_left
  · simp only [Act.put, List.setIfInBounds_toArray, List.set_cons_zero, List.set_cons_succ, i64_w, i32_w]
    rfl
  refine pure_ (i := 5) (N := some 41) (v := ?_) (a' := ?_) #[true, true, true, true, true, true, true, true, true, false, false, false, false, false, false] rfl rfl (by kernel_rfl) (fun _ _ _ h => h) (Or.inl ⟨by rfl, ?_⟩) ?_ ?_
  rotate_left
  · intro w'
    go_simp
    with_reducible rfl
  rotate_left
  · simp only [Act.put, List.setIfInBounds_toArray, List.set_cons_zero, List.set_cons_succ, i64_w, i32_w]
    rfl
  refine take_ (i := 9) (N := some 45) (v := ?_) (a' := ?_) #[true, true, true, true, true, true, true, true, true, true, false, false, false, false, false] rfl rfl (by kernel_rfl) (fun _ _ _ h => h) (Or.inl ⟨by rfl, ?_⟩) hHeld ?_ ?_
  rotate_left
  · rintro w' ⟨s0, s1⟩
    go_simp
    with_reducible rfl
  rotate_left
  · simp only [Act.put, List.setIfInBounds_toArray, List.set_cons_zero, List.set_cons_succ, i64_w, i32_w]
    rfl
  refine pure_ (i := 10) (N := some 46) (v := ?_) (a' := ?_) #[true, true, true, true, true, true, true, true, true, true, true, false, false, false, false] rfl rfl (by kernel_rfl) (fun _ _ _ h => h) (Or.inl ⟨by rfl, ?_⟩) ?_ ?_
  rotate_left
  · intro w'
    go_simp
    with_reducible rfl
  rotate_left
  · simp only [Act.put, List.setIfInBounds_toArray, List.set_cons_zero, List.set_cons_succ, i64_w, i32_w]
    rfl
  refine pure_ (i := 11) (N := some 47) (v := ?_) (a' := ?_) #[true, true, true, true, true, true, true, true, true, true, true, true, false, false, false] rfl rfl (by kernel_rfl) (fun _ _ _ h => h) (Or.inl ⟨by rfl, ?_⟩) ?_ ?_
  rotate_left
  · intro w'
    go_simp
    with_reducible rfl
  rotate_left
  · simp only [Act.put, List.setIfInBounds_toArray, List.set_cons_zero, List.set_cons_succ, i64_w, i32_w]
    rfl
  refine pure_ (i := 12) (N := some 48) (v := ?_) (a' := ?_) #[true, true, true, true, true, true, true, true, true, true, true, true, true, false, false] rfl rfl (by kernel_rfl) (fun _ _ _ h => h) (Or.inl ⟨by rfl, ?_⟩) ?_ ?_
  rotate_left
  · intro w'
    go_simp
    with_reducible rfl
  rotate_left
  · simp only [Act.put, List.setIfInBounds_toArray, List.set_cons_zero, List.set_cons_succ, i64_w, i32_w]
    rfl
  refine pure_ (i := 13) (N := some 49) (v := ?_) (a' := ?_) #[true, true, true, true, true, true, true, true, true, true, true, true, true, true, false] rfl rfl (by kernel_rfl) (fun _ _ _ h => h) (Or.inl ⟨by rfl, ?_⟩) ?_ ?_
  rotate_left
  · intro w'
    go_simp
    with_reducible rfl
  rotate_left
  · simp only [Act.put, List.setIfInBounds_toArray, List.set_cons_zero, List.set_cons_succ, i64_w, i32_w]
    rfl
  refine last_ (i := 14) (N := none) #[true, true, true, true, true, true, true, true, true, true, true, true, true, true, true] rfl rfl (by kernel_rfl) (by decide) (fun K hK => ?_)
  refine skip_ (w1 := ((W4.setCell ⟨g, 2, none⟩ (.int .i64 (f' : Int))).drew)) (by rfl) rfl ?_ ?_
  · go_simp
    try rfl
  refine hK.out _ _ ?_
  clear hK K
  refine done_ (by kernel_rfl) ?_

  clear e2
  go_wp2
  exact bodyPost_ret (v := .tuple #[.agg #[.int .i64 x.1, .string x.2], .bool true]) (by simp [results, Try.results26, go_sem, m0, m1, hgb', hgb2]) rfl (HLast.out _ rfl).drew
end
end Go.Proofs.Ytclhddldbfdfdaa.PoW
namespace Go.Proofs.Ytclhddldbfdfdaa.PoW
open Go.RowKit Go.Proofs.YtclhddldbfdfdaaW.PrintWords Go.Proofs.YtclhddldbfdfdaaW.PrintMore Go.Proofs.YtclhddldbfdfdaaW.PrintLast
set_option linter.unusedVariables false
set_option linter.unusedSimpArgs false
section
variable {W : World} {base : Nat} {ok : Nat → Prop} {g room : Nat} {l : List Msg} {v : Value} {fr : Nat} {dr : Int} {buf : List Msg}
def QCopyPost (W : World) (room : Nat) (l : List Msg) (e : Ending) (W' : World) : Prop := ∃ gc, e = .returned (.pointer (some ⟨gc, 0, none⟩)) ∧ QAt W' W.heap.size (fun k => W.heap.size ≤ k) gc room l ∧ Below W.heap.size W W'
set_option maxHeartbeats 4000000 in
set_option maxRecDepth 100000 in
theorem qcopy_calls (h : QAt W base ok g room l) : Calls Try.prog 32 #[.pointer (some ⟨g, 0, none⟩)] W (QCopyPost W room l) := by
  obtain ⟨v, fr, dr, buf, h⟩ := h
  have HG := Aside0.mk h.given
  have hgl := h.lt
  have HI := Aside0.mk (QIn.items (h.move (W' := W.drew) (ok' := ok) (fun _ _ _ => rfl) (fun _ h _ => h)))
  have r0 : W.cell? ⟨g, 0, none⟩ = some (.int .i64 (room : Int)) := blk_cell h.box 0
  have r3 : W.cell? ⟨g, 3, none⟩ = some (.int .i64 (l.length : Int)) := blk_cell h.box 3
  have r4 : W.cell? ⟨g, 4, none⟩ = some (.int .i64 dr) := blk_cell h.box 4
  have HF := Aside0.mk (show (0 < room ∧ room ≤ 64) ∧ (0 ≤ dr ∧ dr ≤ 4611686018427387904) ∧ l.length ≤ room from ⟨⟨h.room0, h.room1⟩, ⟨h.dr0, h.dr1⟩, Nat.le_trans h.ring.fits h.short⟩)
  clear h
  go_enter Try.func32, Try.ntmps32
  go_wp2_with (go_at_call 38; refine HG.out.mono ?_; rintro e w1 ⟨rfl, rfl⟩)
  refine start_ (n := 17) (S := fun w' => w'.cell? ⟨g, 0, none⟩ = some (.int .i64 (room : Int)) ∧ w'.cell? ⟨g, 3, none⟩ = some (.int .i64 (l.length : Int)) ∧ w'.cell? ⟨g, 4, none⟩ = some (.int .i64 dr)) (ds := [15]) #[false, false, false, false, false, false, false, false, false, false, false, false, false, false, false, false, false] (by kernel_rfl) rfl rfl ⟨r0, r3, r4⟩ (fun hHeld => ?_)
  refine pure_ (i := 0) (N := some 6) (v := ?_) (a' := ?_) #[true, false, false, false, false, false, false, false, false, false, false, false, false, false, false, false, false] rfl rfl (by kernel_rfl) (fun _ _ _ h => h) (Or.inl ⟨by rfl, ?_⟩) ?_ ?_
  rotate_left
  · intro w'
    go_simp
    with_reducible rfl
  rotate_left
  · simp only [Act.put, List.setIfInBounds_toArray, List.set_cons_zero, List.set_cons_succ, i64_w, i32_w]
    rfl
  refine pure_ (i := 1) (N := some 7) (v := ?_) (a' := ?_) #[true, true, false, false, false, false, false, false, false, false, false, false, false, false, false, false, false] rfl rfl (by kernel_rfl) (fun _ _ _ h => h) (Or.inl ⟨by rfl, ?_⟩) ?_ ?_
  rotate_left
  · intro w'
    go_simp
    with_reducible rfl
  rotate_left
  · simp only [Act.put, List.setIfInBounds_toArray, List.set_cons_zero, List.set_cons_succ, i64_w, i32_w]
    rfl
  refine pure_ (i := 2) (N := some 8) (v := ?_) (a' := ?_) #[true, true, true, false, false, false, false, false, false, false, false, false, false, false, false, false, false] rfl rfl (by kernel_rfl) (fun _ _ _ h => h) (Or.inl ⟨by rfl, ?_⟩) ?_ ?_
  rotate_left
  · intro w'
    go_simp
    with_reducible rfl
  rotate_left
  · simp only [Act.put, List.setIfInBounds_toArray, List.set_cons_zero, List.set_cons_succ, i64_w, i32_w]
    rfl
  refine pure_ (i := 4) (N := some 10) (v := ?_) (a' := ?_) #[true, true, true, false, true, false, false, false, false, false, false, false, false, false, false, false, false] rfl rfl (by kernel_rfl) (fun _ _ _ h => h) (Or.inl ⟨by rfl, ?_⟩) ?_ ?_
  rotate_left
  · intro w'
    go_simp
    with_reducible rfl
  rotate_left
  · simp only [Act.put, List.setIfInBounds_toArray, List.set_cons_zero, List.set_cons_succ, i64_w, i32_w]
    rfl
  refine pure_ (i := 6) (N := some 12) (v := ?_) (a' := ?_) #[true, true, true, false, true, false, true, false, false, false, false, false, false, false, false, false, false] rfl rfl (by kernel_rfl) (fun _ _ _ h => h) (Or.inl ⟨by rfl, ?_⟩) ?_ ?_
  rotate_left
  · intro w'
    go_simp
    with_reducible rfl
  rotate_left
  · simp only [Act.put, List.setIfInBounds_toArray, List.set_cons_zero, List.set_cons_succ, i64_w, i32_w]
    rfl
  refine pure_ (i := 7) (N := some 13) (v := ?_) (a' := ?_) #[true, true, true, false, true, false, true, true, false, false, false, false, false, false, false, false, false] rfl rfl (by kernel_rfl) (fun _ _ _ h => h) (Or.inl ⟨by rfl, ?_⟩) ?_ ?_
  rotate_left
  · intro w'
    go_simp
    with_reducible rfl
  rotate_left
  · simp only [Act.put, List.setIfInBounds_toArray, List.set_cons_zero, List.set_cons_succ, i64_w, i32_w]
    rfl
  refine pure_ (i := 8) (N := some 14) (v := ?_) (a' := ?_) #[true, true, true, false, true, false, true, true, true, false, false, false, false, false, false, false, false] rfl rfl (by kernel_rfl) (fun _ _ _ h => h) (Or.inl ⟨by rfl, ?_⟩) ?_ ?_
  rotate_left
  · intro w'
    go_simp
    with_reducible rfl
  rotate_left
  · simp only [Act.put, List.setIfInBounds_toArray, List.set_cons_zero, List.set_cons_succ, i64_w, i32_w]
    rfl
  refine pure_ (i := 10) (N := some 16) (v := ?_) (a' := ?_) #[true, true, true, false, true, false, true, true, true, false, true, false, false, false, false, false, false] rfl rfl (by kernel_rfl) (fun _ _ _ h => h) (Or.inl ⟨by rfl, ?_⟩) ?_ ?_
  rotate_left
  · intro w'
    go_simp
    with_reducible rfl
  rotate_left
  · simp only [Act.put, List.setIfInBounds_toArray, List.set_cons_zero, List.set_cons_succ, i64_w, i32_w]
    rfl
  refine pure_ (i := 11) (N := some 17) (v := ?_) (a' := ?_) #[true, true, true, false, true, false, true, true, true, false, true, true, false, false, false, false, false] rfl rfl (by kernel_rfl) (fun _ _ _ h => h) (Or.inl ⟨by rfl, ?_⟩) ?_ ?_
  rotate_left
  · intro w'
    go_simp
    with_reducible rfl
  rotate_left
  · simp only [Act.put, List.setIfInBounds_toArray, List.set_cons_zero, List.set_cons_succ, i64_w, i32_w]
    rfl
  refine pure_ (i := 12) (N := some 18) (v := ?_) (a' := ?_) #[true, true, true, false, true, false, true, true, true, false, true, true, true, false, false, false, false] rfl rfl (by kernel_rfl) (fun _ _ _ h => h) (Or.inl ⟨by rfl, ?_⟩) ?_ ?_
  rotate_left
  · intro w'
    go_simp
    with_reducible rfl
  rotate_left
  · simp only [Act.put, List.setIfInBounds_toArray, List.set_cons_zero, List.set_cons_succ, i64_w, i32_w]
    rfl
  refine take_ (i := 3) (N := some 9) (v := ?_) (a' := ?_) #[true, true, true, true, true, false, true, true, true, false, true, true, true, false, false, false, false] rfl rfl (by kernel_rfl) (fun _ _ _ h => h) (Or.inl ⟨by rfl, ?_⟩) hHeld ?_ ?_
  rotate_left
  · rintro w' ⟨s0, s1, s2⟩
    go_simp
    with_reducible rfl
  rotate_left
  · simp only [Act.put, List.setIfInBounds_toArray, List.set_cons_zero, List.set_cons_succ, i64_w, i32_w]
    rfl
  refine take_ (i := 9) (N := some 15) (v := ?_) (a' := ?_) #[true, true, true, true, true, false, true, true, true, true, true, true, true, false, false, false, false] rfl rfl (by kernel_rfl) (fun _ _ _ h => h) (Or.inl ⟨by rfl, ?_⟩) hHeld ?_ ?_
  rotate_left
  · rintro w' ⟨s0, s1, s2⟩
    go_simp
    with_reducible rfl
  rotate_left
  · simp only [Act.put, List.setIfInBounds_toArray, List.set_cons_zero, List.set_cons_succ, i64_w, i32_w]
    rfl
  refine take_ (i := 13) (N := some 19) (v := ?_) (a' := ?_) #[true, true, true, true, true, false, true, true, true, true, true, true, true, true, false, false, false] rfl rfl (by kernel_rfl) (fun _ _ _ h => h) (Or.inl ⟨by rfl, ?_⟩) hHeld ?_ ?_
  rotate_left
  · rintro w' ⟨s0, s1, s2⟩
    go_simp
    with_reducible rfl
  rotate_left
  · simp only [Act.put, List.setIfInBounds_toArray, List.set_cons_zero, List.set_cons_succ, i64_w, i32_w]
    rfl
  refine one_ (i := 5) (N := some 11) #[true, true, true, true, true, true, true, true, true, true, true, true, true, true, false, false, false] rfl rfl (by kernel_rfl) (by decide) (fun K hK => ?_)
  refine goes_ Try.func44 (by kernel_rfl) rfl #[.pointer (some ⟨g, 0, none⟩)] (by rfl) rfl rfl (by simp only [List.map_toArray, List.map_cons, List.map_nil]; rfl) ?_
  with_reducible refine (HI.out).mono ?_
  rintro e w3 ⟨u3, rfl, hR, hb⟩
  refine ⟨_, rfl, ?_⟩
  obtain ⟨A3, c3, e3⟩ := Kd.R_slice hR
  subst e3
  have HR := Aside0.mk hR
  have HB := Aside0.mk (below_step (W := W.drew) (below_drew (Below.refl W.heap.size W)) hb)
  clear hR hb
  refine hK.out _ _ ⟨(HB.out.cell (p := ⟨g, 0, none⟩) hgl).trans r0, (HB.out.cell (p := ⟨g, 3, none⟩) hgl).trans r3, (HB.out.cell (p := ⟨g, 4, none⟩) hgl).trans r4⟩ (fun hHeld => ?_)
  clear hK K
  refine norm_ (a' := ?_) ?_ ?_
  rotate_left
  · show Act.put _ (some 11) _ = _
    simp only [Act.put, List.setIfInBounds_toArray, List.set_cons_zero, List.set_cons_succ, i64_w, i32_w]
    rfl
  refine pure_ (i := 14) (N := some 20) (v := ?_) (a' := ?_) #[true, true, true, true, true, true, true, true, true, true, true, true, true, true, true, false, false] rfl rfl (by kernel_rfl) (fun _ _ _ h => h) (Or.inl ⟨by rfl, ?_⟩) ?_ ?_
  rotate_left
  · intro w'
    go_simp
    with_reducible rfl
  rotate_left
  · simp only [Act.put, List.setIfInBounds_toArray, List.set_cons_zero, List.set_cons_succ, i64_w, i32_w]
    rfl
  refine last_ (i := 15) (N := some 21) #[true, true, true, true, true, true, true, true, true, true, true, true, true, true, true, true, false] rfl rfl (by kernel_rfl) (by decide) (fun K hK => ?_)
  refine value_ (w1 := ?_) (v := ?_) (by rfl) rfl ?_ ?_
  rotate_left 2
  · go_simp
    constructor
    · rfl
    · rfl
  refine hK.out _ _ ?_
  clear hK K
  refine norm_ (a' := ?_) ?_ ?_
  rotate_left
  · show Act.put _ (some 21) _ = _
    simp only [Act.put, List.setIfInBounds_toArray, List.set_cons_zero, List.set_cons_succ, i64_w, i32_w]
    rfl
  refine pure_ (i := 16) (N := some 2) (v := ?_) (a' := ?_) #[true, true, true, true, true, true, true, true, true, true, true, true, true, true, true, true, true] rfl rfl (by kernel_rfl) (fun _ _ _ h => h) (Or.inl ⟨by rfl, ?_⟩) ?_ ?_
  rotate_left
  · intro w'
    go_simp
    with_reducible rfl
  rotate_left
  · simp only [Act.put, List.setIfInBounds_toArray, List.set_cons_zero, List.set_cons_succ, i64_w, i32_w]
    rfl
  refine done_ (by kernel_rfl) ?_

  go_wp2
  go_ret
  have hR : Kd.R kM 37 (w3.alloc (.cells #[.int .i64 (room : Int), .slice A3 l.length c3, .int .i64 0, .int .i64 (l.length : Int), .int .i64 dr] 85)) W.heap.size (fun k => W.heap.size ≤ k ∧ k ≠ w3.heap.size) (.slice A3 l.length c3) l := Kd.R_mono (Kd.R_below (Kd.R_bound HR.out) (below_alloc (Below.refl _ _) _)) (fun k hk => ⟨hk.1, by have := hk.2.2.1; omega⟩)
  exact ⟨w3.heap.size, rfl, ⟨.slice A3 l.length c3, 0, dr, l, heap_alloc_new w3 _, hR, Ring.self l, HF.out.2.2, HF.out.2.1.1, HF.out.2.1.2, HB.out.size, HF.out.1.1, HF.out.1.2⟩, below_alloc HB.out _⟩
end
end Go.Proofs.Ytclhddldbfdfdaa.PoW
