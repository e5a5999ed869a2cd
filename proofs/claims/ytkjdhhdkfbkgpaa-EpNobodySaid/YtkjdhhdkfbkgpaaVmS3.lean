/- The machine's step: ret, load. -/
import Derived.Test.YtkjdhhdkfbkgpaaVmMA
namespace Go.Proofs.Ytkjdhhdkfbkgpaa.VmW
open Go.RowKit Go.Proofs.YtkjdhhdkfbkgpaaW.PrintWords Go.Proofs.YtkjdhhdkfbkgpaaW.PrintMore Go.Proofs.YtkjdhhdkfbkgpaaW.PrintLast Go.Proofs.Ytkjdhhdkfbkgpaa.Pvm
set_option linter.unusedVariables false
set_option linter.unusedSimpArgs false
set_option maxHeartbeats 8000000 in
set_option maxRecDepth 100000 in
theorem step_retno (W : World) (base g : Nat) (Ac : Option Addr) (cc : Nat) (code : List In) (p : Value) (f : Nat → Prop) (v1 v2 : Value) (s : St) (m : Mem) (h : Mach W base g Ac cc code p f v1 v2 s m) (hbase : base ≤ W.heap.size) (hs : mayP s code.length) (hlt : s.pc < (code.length : Int)) (hlen : code.length ≤ 1024) (a : Int) (hx : s.ca.length = 0) (hop : inAt code s.pc = ⟨23, a⟩) (hh : hasP 23 a s.st.length = true) : Calls Try.prog 54 #[.pointer (some ⟨g, 0, none⟩)] W (StepPost W base g Ac cc code p f v1 v2 (stepP memK code s m)) := by
  have HH := Aside0.mk hh
  have HT := Aside0.mk (show 0 ≤ s.st.length from by unfold hasP at hh; simp at hh; omega)
  have HR := Aside0.mk (show stepP memK code s m = (s, m, 4, 0) from by unfold stepP; rw [if_neg (by omega), hop, if_neg (by rw [hh]; simp)]; simp [opP, cutP_zero, *])
  clear hh
  obtain ⟨hp0, hp1, hl, hcl, _⟩ := hs
  have hfl := h.mem.lt
  obtain ⟨B, d, rfl⟩ : ∃ B d, v1 = .slice B s.st.length d := own_slice h.stk
  obtain ⟨E, c, rfl⟩ : ∃ E c, v2 = .slice E s.ca.length c := own_slice h.cal
  have HFL := Aside0.mk (show ∀ k, f k → k < W.heap.size ∨ W.heap.size + 3 ≤ k from fun k hk => .inl (hfl k hk))

  obtain ⟨b, o, rfl, hbw, hcell⟩ := code_at h.cde (by omega)
  obtain ⟨x0, x1⟩ := hcell s.pc.toNat (by omega)
  rw [Int.toNat_of_nonneg hp0, hop] at x0 x1
  generalize hW : ((W.alloc (.cells #[.int .i64 0, .int .i64 0, .int .i64 0] 53)).alloc (.cells #[.int .i64 4, .int .i64 0, .int .i64 0] 53)) = W1 at *
  have hb1 := below_alloc (below_alloc (Below.refl W.heap.size W) (.cells #[.int .i64 0, .int .i64 0, .int .i64 0] 53)) (.cells #[.int .i64 4, .int .i64 0, .int .i64 0] 53)
  rw [hW] at hb1
  have hz1 : W1.heap.size = W.heap.size + 2 := by rw [← hW]; simp
  have y0 : W1.heap[W.heap.size]? = some (.cells #[.int .i64 0, .int .i64 0, .int .i64 0] 53 (0, 0)) := by
    rw [← hW]; exact (heap_alloc_old _ _ (by simp)).trans (heap_alloc_new W _)
  have y1 : W1.heap[W.heap.size + 1]? = some (.cells #[.int .i64 4, .int .i64 0, .int .i64 0] 53 (0, 0)) := by
    rw [← hW]
    have := heap_alloc_new (W.alloc (.cells #[.int .i64 0, .int .i64 0, .int .i64 0] 53)) (.cells #[.int .i64 4, .int .i64 0, .int .i64 0] 53)
    simpa using this
  have hm1 := h.step hb1
  have c0 : W1.cell? ⟨g, 0, none⟩ = some (.slice (some ⟨b, o, none⟩) code.length cc) := blk_cell hm1.box 0
  have c1 : W1.cell? ⟨g, 1, none⟩ = some (.int .i64 s.pc) := blk_cell hm1.box 1
  replace x0 := (hb1.cell (p := ⟨b, o + s.pc.toNat * 2, none⟩) hbw).trans x0
  replace x1 := (hb1.cell (p := ⟨b, o + s.pc.toNat * 2 + 1, none⟩) hbw).trans x1
  have t0 : (s.pc == (code.length : Int)) = false := by simp; omega
  have e1 : wrap64 (s.pc + 1) = s.pc + 1 := by unfold wrap64; omega
  have n0 : (W.heap.size = g) = False := eq_false (by have := h.gl; omega)
  have n1 : (g = W.heap.size) = False := eq_false (by have := h.gl; omega)
  have n2 : (W.heap.size + 2 = g) = False := eq_false (by have := h.gl; omega)
  have n3 : (g = W.heap.size + 2) = False := eq_false (by have := h.gl; omega)
  have HSE := Aside0.mk (fun (w3 : World) (hb : Below W1.heap.size W1 w3) hn => SE.init h hbase hb1 hz1 y0 y1 hb (w3 := w3) hn 23 a)
  have HW := Aside0.mk hW
  have HM1 := Aside0.mk hm1
  have HZ := Aside0.mk hz1
  have HG := Aside0.mk (show b < W1.heap.size from Nat.lt_of_lt_of_le hbw hb1.size)
  have HGL := Aside0.mk hm1.gl
  have k0 : (0 : Int) ≤ s.pc := hp0
  have k1 : s.pc < (code.length : Int) := hlt
  have HL := Aside0.mk (And.intro hl hcl)
  have h_cal := h.cal
  have h_mem := h.mem
  clear h hbase hfl hcell hW hb1 y0 y1 hm1 hp0 hp1 hlt hl hcl
  go_enter Try.func54, Try.ntmps54
  go_wp2
  rw [HW.out]
  go_quiet (fail)
  go_wp2
  refine start_ (n := 13) (S := fun w' => w'.cell? ⟨g, 0, none⟩ = some (.slice (some ⟨b, o, none⟩) code.length cc) ∧ w'.cell? ⟨g, 1, none⟩ = some (.int .i64 s.pc) ∧ w'.cell? ⟨b, o + s.pc.toNat * 2, none⟩ = some (.int .i64 23) ∧ w'.cell? ⟨b, o + s.pc.toNat * 2 + 1, none⟩ = some (.int .i64 a)) (ds := [12]) #[false, false, false, false, false, false, false, false, false, false, false, false, false] (by kernel_rfl) rfl rfl ⟨c0, c1, x0, x1⟩ (fun hHeld => ?_)
  refine pure_ (i := 0) (N := some 24) (v := ?_) (a' := ?_) #[true, false, false, false, false, false, false, false, false, false, false, false, false] rfl rfl (by kernel_rfl) (fun _ _ _ h => h) (Or.inl ⟨by rfl, ?_⟩) ?_ ?_
  rotate_left
  · intro w'
    go_simp
    with_reducible rfl
  rotate_left
  · simp only [Act.put, List.setIfInBounds_toArray, List.set_cons_zero, List.set_cons_succ, i64_w, i32_w]
    rfl
  refine pure_ (i := 1) (N := some 25) (v := ?_) (a' := ?_) #[true, true, false, false, false, false, false, false, false, false, false, false, false] rfl rfl (by kernel_rfl) (fun _ _ _ h => h) (Or.inl ⟨by rfl, ?_⟩) ?_ ?_
  rotate_left
  · intro w'
    go_simp
    with_reducible rfl
  rotate_left
  · simp only [Act.put, List.setIfInBounds_toArray, List.set_cons_zero, List.set_cons_succ, i64_w, i32_w]
    rfl
  refine pure_ (i := 2) (N := some 26) (v := ?_) (a' := ?_) #[true, true, true, false, false, false, false, false, false, false, false, false, false] rfl rfl (by kernel_rfl) (fun _ _ _ h => h) (Or.inl ⟨by rfl, ?_⟩) ?_ ?_
  rotate_left
  · intro w'
    go_simp
    with_reducible rfl
  rotate_left
  · simp only [Act.put, List.setIfInBounds_toArray, List.set_cons_zero, List.set_cons_succ, i64_w, i32_w]
    rfl
  refine pure_ (i := 4) (N := some 28) (v := ?_) (a' := ?_) #[true, true, true, false, true, false, false, false, false, false, false, false, false] rfl rfl (by kernel_rfl) (fun _ _ _ h => h) (Or.inl ⟨by rfl, ?_⟩) ?_ ?_
  rotate_left
  · intro w'
    go_simp
    with_reducible rfl
  rotate_left
  · simp only [Act.put, List.setIfInBounds_toArray, List.set_cons_zero, List.set_cons_succ, i64_w, i32_w]
    rfl
  refine pure_ (i := 5) (N := some 29) (v := ?_) (a' := ?_) #[true, true, true, false, true, true, false, false, false, false, false, false, false] rfl rfl (by kernel_rfl) (fun _ _ _ h => h) (Or.inl ⟨by rfl, ?_⟩) ?_ ?_
  rotate_left
  · intro w'
    go_simp
    with_reducible rfl
  rotate_left
  · simp only [Act.put, List.setIfInBounds_toArray, List.set_cons_zero, List.set_cons_succ, i64_w, i32_w]
    rfl
  refine pure_ (i := 6) (N := some 30) (v := ?_) (a' := ?_) #[true, true, true, false, true, true, true, false, false, false, false, false, false] rfl rfl (by kernel_rfl) (fun _ _ _ h => h) (Or.inl ⟨by rfl, ?_⟩) ?_ ?_
  rotate_left
  · intro w'
    go_simp
    with_reducible rfl
  rotate_left
  · simp only [Act.put, List.setIfInBounds_toArray, List.set_cons_zero, List.set_cons_succ, i64_w, i32_w]
    rfl
  refine pure_ (i := 7) (N := some 31) (v := ?_) (a' := ?_) #[true, true, true, false, true, true, true, true, false, false, false, false, false] rfl rfl (by kernel_rfl) (fun _ _ _ h => h) (Or.inl ⟨by rfl, ?_⟩) ?_ ?_
  rotate_left
  · intro w'
    go_simp
    with_reducible rfl
  rotate_left
  · simp only [Act.put, List.setIfInBounds_toArray, List.set_cons_zero, List.set_cons_succ, i64_w, i32_w]
    rfl
  refine take_ (i := 3) (N := some 27) (v := ?_) (a' := ?_) #[true, true, true, true, true, true, true, true, false, false, false, false, false] rfl rfl (by kernel_rfl) (fun _ _ _ h => h) (Or.inl ⟨by rfl, ?_⟩) hHeld ?_ ?_
  rotate_left
  · rintro w' ⟨s0, s1, s2, s3⟩
    go_simp
    with_reducible rfl
  rotate_left
  · simp only [Act.put, List.setIfInBounds_toArray, List.set_cons_zero, List.set_cons_succ, i64_w, i32_w]
    rfl
  refine take_ (i := 8) (N := some 32) (v := ?_) (a' := ?_) #[true, true, true, true, true, true, true, true, true, false, false, false, false] rfl rfl (by kernel_rfl) (fun _ _ _ h => h) (Or.inl ⟨by rfl, ?_⟩) hHeld ?_ ?_
  rotate_left
  · rintro w' ⟨s0, s1, s2, s3⟩
    go_simp
    with_reducible rfl
  rotate_left
  · simp only [Act.put, List.setIfInBounds_toArray, List.set_cons_zero, List.set_cons_succ, i64_w, i32_w]
    rfl
  refine pure_ (i := 9) (N := some 33) (v := ?_) (a' := ?_) #[true, true, true, true, true, true, true, true, true, true, false, false, false] rfl rfl (by kernel_rfl) (fun _ _ _ h => h) (Or.inl ⟨by rfl, ?_⟩) ?_ ?_
  rotate_left
  · intro w'
    go_simp
    with_reducible rfl
  rotate_left
  · simp only [Act.put, List.setIfInBounds_toArray, List.set_cons_zero, List.set_cons_succ, i64_w, i32_w]
    rfl
  refine take_ (i := 10) (N := some 34) (v := ?_) (a' := ?_) #[true, true, true, true, true, true, true, true, true, true, true, false, false] rfl rfl (by kernel_rfl) (fun _ _ _ h => h) (Or.inl ⟨by rfl, ?_⟩) hHeld ?_ ?_
  rotate_left
  · rintro w' ⟨s0, s1, s2, s3⟩
    go_simp
    with_reducible rfl
  rotate_left
  · simp only [Act.put, List.setIfInBounds_toArray, List.set_cons_zero, List.set_cons_succ, i64_w, i32_w]
    rfl
  refine one_ (i := 11) (N := some 4) #[true, true, true, true, true, true, true, true, true, true, true, true, false] rfl rfl (by kernel_rfl) (by decide) (fun K hK => ?_)
  refine value_ (w1 := ?_) (v := ?_) (by rfl) rfl ?_ ?_
  rotate_left 2
  · go_simp
    constructor
    · rfl
    · rfl
  have hb3 : Below W1.heap.size W1 ((W1.drewN (nq + 1)).alloc (.cells #[.int .i64 0, .int .i64 0] 27)) := below_alloc (w := W1) (pw_below_drewN (Below.refl W1.heap.size W1) (nq + 1)) _
  have hn3 : ((W1.drewN (nq + 1)).alloc (.cells #[.int .i64 0, .int .i64 0] 27)).heap[W.heap.size + 2]? = some (.cells #[.int .i64 0, .int .i64 0] 27 (0, 0)) := by rw [← hz1]; exact heap_alloc_new (W1.drewN (nq + 1)) _
  generalize (W1.drewN (nq + 1)).alloc (.cells #[.int .i64 0, .int .i64 0] 27) = w3 at *
  have HB3 := Aside0.mk hb3
  have i0 := blk_cell hn3 0
  have i1 := blk_cell hn3 1
  have j0 := blk_frozen hn3 0
  have j1 := blk_frozen hn3 1
  have hs4 := HSE.out w3 hb3 hn3
  clear hb3 hn3
  have HS4 := Aside0.mk hs4
  clear hs4
  refine hK.out _ _ ⟨(HB3.out.cell (p := ⟨g, 0, none⟩) HGL.out).trans c0, (HB3.out.cell (p := ⟨g, 1, none⟩) HGL.out).trans c1, (HB3.out.cell (p := ⟨b, o + s.pc.toNat * 2, none⟩) HG.out).trans x0, (HB3.out.cell (p := ⟨b, o + s.pc.toNat * 2 + 1, none⟩) HG.out).trans x1⟩ (fun hHeld => ?_)
  clear hK K
  refine norm_ (a' := ?_) ?_ ?_
  rotate_left
  · show Act.put _ (some 4) _ = _
    simp only [Act.put, List.setIfInBounds_toArray, List.set_cons_zero, List.set_cons_succ, i64_w, i32_w]
    rfl
  refine last_ (i := 12) (N := none) #[true, true, true, true, true, true, true, true, true, true, true, true, true] rfl rfl (by kernel_rfl) (by decide) (fun K hK => ?_)
  refine skip_ (w1 := ?_) (by rfl) rfl ?_ ?_
  rotate_left
  · go_simp
    rfl
  refine hK.out _ _ ?_
  clear hK K
  refine done_ (by kernel_rfl) ?_

  have HS4' : Aside0 _ := HS4
  clear HS4
  generalize (w3.setCell ⟨W.heap.size + 2, 0, none⟩ (.int .i64 23)).setCell ⟨W.heap.size + 2, 1, none⟩ (.int .i64 a) = w4 at *
  have HS4 := HS4'
  clear HS4' c0 c1 x0 x1 i0 i1 j0 j1 HSE hHeld HB3
  obtain ⟨c0, c1, c2, c3, c4, g1, g3⟩ := HS4.out.cells; obtain ⟨b0, b1, b2, h0, h1, h2, l0, l1, l2, i0, i1⟩ := HS4.out.boxes
  have tx : wrap64 ((s.ca.length : Int) - 1) = -1 := by unfold wrap64; omega
  clear hx
  go_wp2_with (first
    | (go_at_call 62; (with_reducible refine (has_calls _ g B s.st.length d 23 a c2 HL.out.1).mono ?_); rintro e w5 ⟨he, hb5⟩; rw [HH.out] at he; subst he; have HS5 := Aside0.mk (HS4.out.step hb5); clear hb5 c0 c1 c2 c3 c4 g1 g3 b0 b1 b2 h0 h1 h2 l0 l1 l2 i0 i1; obtain ⟨c0, c1, c2, c3, c4, g1, g3⟩ := HS5.out.cells; obtain ⟨b0, b1, b2, h0, h1, h2, l0, l1, l2, i0, i1⟩ := HS5.out.boxes))
  have HF := HS5.out
  have hz := blk_set (blk_set (blk_set HF.res 0 (.int .i64 4)) 1 (.int .i64 0)) 2 (.int .i64 0)
  have e0 := (blk_cell hz 0).trans (show _ = some (Value.int .i64 4) from rfl)
  have e1 := (blk_cell hz 1).trans (show _ = some (Value.int .i64 0) from rfl)
  have e2 := (blk_cell hz 2).trans (show _ = some (Value.int .i64 0) from rfl)
  exact bodyPost_ret (v := .agg #[.int .i64 4, .int .i64 0, .int .i64 0]) (by simp [results, Try.results54, go_sem, e0, e1, e2]) rfl (HF.told 4 0 0 HFL.out HR.out rfl)
set_option maxHeartbeats 8000000 in
set_option maxRecDepth 100000 in
theorem step_ret (W : World) (base g : Nat) (Ac : Option Addr) (cc : Nat) (code : List In) (p : Value) (f : Nat → Prop) (v1 v2 : Value) (s : St) (m : Mem) (h : Mach W base g Ac cc code p f v1 v2 s m) (hbase : base ≤ W.heap.size) (hs : mayP s code.length) (hlt : s.pc < (code.length : Int)) (hlen : code.length ≤ 1024) (a : Int) (hx : s.ca.length ≠ 0) (hop : inAt code s.pc = ⟨23, a⟩) (hh : hasP 23 a s.st.length = true) : Calls Try.prog 54 #[.pointer (some ⟨g, 0, none⟩)] W (StepPost W base g Ac cc code p f v1 v2 (stepP memK code s m)) := by
  have HH := Aside0.mk hh
  have HT := Aside0.mk (show 0 ≤ s.st.length from by unfold hasP at hh; simp at hh; omega)
  have HR := Aside0.mk (show stepP memK code s m = (⟨lastP s.ca 0, s.st, cutP s.ca 1⟩, m, 0, 0) from by unfold stepP; rw [if_neg (by omega), hop, if_neg (by rw [hh]; simp)]; simp [opP, cutP_zero, *])
  clear hh
  obtain ⟨hp0, hp1, hl, hcl, _⟩ := hs
  have hfl := h.mem.lt
  obtain ⟨B, d, rfl⟩ : ∃ B d, v1 = .slice B s.st.length d := own_slice h.stk
  obtain ⟨E, c, rfl⟩ : ∃ E c, v2 = .slice E s.ca.length c := own_slice h.cal
  have HFL := Aside0.mk (show ∀ k, f k → k < W.heap.size ∨ W.heap.size + 3 ≤ k from fun k hk => .inl (hfl k hk))

  obtain ⟨b, o, rfl, hbw, hcell⟩ := code_at h.cde (by omega)
  obtain ⟨x0, x1⟩ := hcell s.pc.toNat (by omega)
  rw [Int.toNat_of_nonneg hp0, hop] at x0 x1
  generalize hW : ((W.alloc (.cells #[.int .i64 0, .int .i64 0, .int .i64 0] 53)).alloc (.cells #[.int .i64 4, .int .i64 0, .int .i64 0] 53)) = W1 at *
  have hb1 := below_alloc (below_alloc (Below.refl W.heap.size W) (.cells #[.int .i64 0, .int .i64 0, .int .i64 0] 53)) (.cells #[.int .i64 4, .int .i64 0, .int .i64 0] 53)
  rw [hW] at hb1
  have hz1 : W1.heap.size = W.heap.size + 2 := by rw [← hW]; simp
  have y0 : W1.heap[W.heap.size]? = some (.cells #[.int .i64 0, .int .i64 0, .int .i64 0] 53 (0, 0)) := by
    rw [← hW]; exact (heap_alloc_old _ _ (by simp)).trans (heap_alloc_new W _)
  have y1 : W1.heap[W.heap.size + 1]? = some (.cells #[.int .i64 4, .int .i64 0, .int .i64 0] 53 (0, 0)) := by
    rw [← hW]
    have := heap_alloc_new (W.alloc (.cells #[.int .i64 0, .int .i64 0, .int .i64 0] 53)) (.cells #[.int .i64 4, .int .i64 0, .int .i64 0] 53)
    simpa using this
  have hm1 := h.step hb1
  have c0 : W1.cell? ⟨g, 0, none⟩ = some (.slice (some ⟨b, o, none⟩) code.length cc) := blk_cell hm1.box 0
  have c1 : W1.cell? ⟨g, 1, none⟩ = some (.int .i64 s.pc) := blk_cell hm1.box 1
  replace x0 := (hb1.cell (p := ⟨b, o + s.pc.toNat * 2, none⟩) hbw).trans x0
  replace x1 := (hb1.cell (p := ⟨b, o + s.pc.toNat * 2 + 1, none⟩) hbw).trans x1
  have t0 : (s.pc == (code.length : Int)) = false := by simp; omega
  have e1 : wrap64 (s.pc + 1) = s.pc + 1 := by unfold wrap64; omega
  have n0 : (W.heap.size = g) = False := eq_false (by have := h.gl; omega)
  have n1 : (g = W.heap.size) = False := eq_false (by have := h.gl; omega)
  have n2 : (W.heap.size + 2 = g) = False := eq_false (by have := h.gl; omega)
  have n3 : (g = W.heap.size + 2) = False := eq_false (by have := h.gl; omega)
  have HSE := Aside0.mk (fun (w3 : World) (hb : Below W1.heap.size W1 w3) hn => SE.init h hbase hb1 hz1 y0 y1 hb (w3 := w3) hn 23 a)
  have HW := Aside0.mk hW
  have HM1 := Aside0.mk hm1
  have HZ := Aside0.mk hz1
  have HG := Aside0.mk (show b < W1.heap.size from Nat.lt_of_lt_of_le hbw hb1.size)
  have HGL := Aside0.mk hm1.gl
  have k0 : (0 : Int) ≤ s.pc := hp0
  have k1 : s.pc < (code.length : Int) := hlt
  have HL := Aside0.mk (And.intro hl hcl)
  have h_cal := h.cal
  have h_mem := h.mem
  clear h hbase hfl hcell hW hb1 y0 y1 hm1 hp0 hp1 hlt hl hcl
  go_enter Try.func54, Try.ntmps54
  go_wp2
  rw [HW.out]
  go_quiet (fail)
  go_wp2
  refine start_ (n := 13) (S := fun w' => w'.cell? ⟨g, 0, none⟩ = some (.slice (some ⟨b, o, none⟩) code.length cc) ∧ w'.cell? ⟨g, 1, none⟩ = some (.int .i64 s.pc) ∧ w'.cell? ⟨b, o + s.pc.toNat * 2, none⟩ = some (.int .i64 23) ∧ w'.cell? ⟨b, o + s.pc.toNat * 2 + 1, none⟩ = some (.int .i64 a)) (ds := [12]) #[false, false, false, false, false, false, false, false, false, false, false, false, false] (by kernel_rfl) rfl rfl ⟨c0, c1, x0, x1⟩ (fun hHeld => ?_)
  refine pure_ (i := 0) (N := some 24) (v := ?_) (a' := ?_) #[true, false, false, false, false, false, false, false, false, false, false, false, false] rfl rfl (by kernel_rfl) (fun _ _ _ h => h) (Or.inl ⟨by rfl, ?_⟩) ?_ ?_
  rotate_left
  · intro w'
    go_simp
    with_reducible rfl
  rotate_left
  · simp only [Act.put, List.setIfInBounds_toArray, List.set_cons_zero, List.set_cons_succ, i64_w, i32_w]
    rfl
  refine pure_ (i := 1) (N := some 25) (v := ?_) (a' := ?_) #[true, true, false, false, false, false, false, false, false, false, false, false, false] rfl rfl (by kernel_rfl) (fun _ _ _ h => h) (Or.inl ⟨by rfl, ?_⟩) ?_ ?_
  rotate_left
  · intro w'
    go_simp
    with_reducible rfl
  rotate_left
  · simp only [Act.put, List.setIfInBounds_toArray, List.set_cons_zero, List.set_cons_succ, i64_w, i32_w]
    rfl
  refine pure_ (i := 2) (N := some 26) (v := ?_) (a' := ?_) #[true, true, true, false, false, false, false, false, false, false, false, false, false] rfl rfl (by kernel_rfl) (fun _ _ _ h => h) (Or.inl ⟨by rfl, ?_⟩) ?_ ?_
  rotate_left
  · intro w'
    go_simp
    with_reducible rfl
  rotate_left
  · simp only [Act.put, List.setIfInBounds_toArray, List.set_cons_zero, List.set_cons_succ, i64_w, i32_w]
    rfl
  refine pure_ (i := 4) (N := some 28) (v := ?_) (a' := ?_) #[true, true, true, false, true, false, false, false, false, false, false, false, false] rfl rfl (by kernel_rfl) (fun _ _ _ h => h) (Or.inl ⟨by rfl, ?_⟩) ?_ ?_
  rotate_left
  · intro w'
    go_simp
    with_reducible rfl
  rotate_left
  · simp only [Act.put, List.setIfInBounds_toArray, List.set_cons_zero, List.set_cons_succ, i64_w, i32_w]
    rfl
  refine pure_ (i := 5) (N := some 29) (v := ?_) (a' := ?_) #[true, true, true, false, true, true, false, false, false, false, false, false, false] rfl rfl (by kernel_rfl) (fun _ _ _ h => h) (Or.inl ⟨by rfl, ?_⟩) ?_ ?_
  rotate_left
  · intro w'
    go_simp
    with_reducible rfl
  rotate_left
  · simp only [Act.put, List.setIfInBounds_toArray, List.set_cons_zero, List.set_cons_succ, i64_w, i32_w]
    rfl
  refine pure_ (i := 6) (N := some 30) (v := ?_) (a' := ?_) #[true, true, true, false, true, true, true, false, false, false, false, false, false] rfl rfl (by kernel_rfl) (fun _ _ _ h => h) (Or.inl ⟨by rfl, ?_⟩) ?_ ?_
  rotate_left
  · intro w'
    go_simp
    with_reducible rfl
  rotate_left
  · simp only [Act.put, List.setIfInBounds_toArray, List.set_cons_zero, List.set_cons_succ, i64_w, i32_w]
    rfl
  refine pure_ (i := 7) (N := some 31) (v := ?_) (a' := ?_) #[true, true, true, false, true, true, true, true, false, false, false, false, false] rfl rfl (by kernel_rfl) (fun _ _ _ h => h) (Or.inl ⟨by rfl, ?_⟩) ?_ ?_
  rotate_left
  · intro w'
    go_simp
    with_reducible rfl
  rotate_left
  · simp only [Act.put, List.setIfInBounds_toArray, List.set_cons_zero, List.set_cons_succ, i64_w, i32_w]
    rfl
  refine take_ (i := 3) (N := some 27) (v := ?_) (a' := ?_) #[true, true, true, true, true, true, true, true, false, false, false, false, false] rfl rfl (by kernel_rfl) (fun _ _ _ h => h) (Or.inl ⟨by rfl, ?_⟩) hHeld ?_ ?_
  rotate_left
  · rintro w' ⟨s0, s1, s2, s3⟩
    go_simp
    with_reducible rfl
  rotate_left
  · simp only [Act.put, List.setIfInBounds_toArray, List.set_cons_zero, List.set_cons_succ, i64_w, i32_w]
    rfl
  refine take_ (i := 8) (N := some 32) (v := ?_) (a' := ?_) #[true, true, true, true, true, true, true, true, true, false, false, false, false] rfl rfl (by kernel_rfl) (fun _ _ _ h => h) (Or.inl ⟨by rfl, ?_⟩) hHeld ?_ ?_
  rotate_left
  · rintro w' ⟨s0, s1, s2, s3⟩
    go_simp
    with_reducible rfl
  rotate_left
  · simp only [Act.put, List.setIfInBounds_toArray, List.set_cons_zero, List.set_cons_succ, i64_w, i32_w]
    rfl
  refine pure_ (i := 9) (N := some 33) (v := ?_) (a' := ?_) #[true, true, true, true, true, true, true, true, true, true, false, false, false] rfl rfl (by kernel_rfl) (fun _ _ _ h => h) (Or.inl ⟨by rfl, ?_⟩) ?_ ?_
  rotate_left
  · intro w'
    go_simp
    with_reducible rfl
  rotate_left
  · simp only [Act.put, List.setIfInBounds_toArray, List.set_cons_zero, List.set_cons_succ, i64_w, i32_w]
    rfl
  refine take_ (i := 10) (N := some 34) (v := ?_) (a' := ?_) #[true, true, true, true, true, true, true, true, true, true, true, false, false] rfl rfl (by kernel_rfl) (fun _ _ _ h => h) (Or.inl ⟨by rfl, ?_⟩) hHeld ?_ ?_
  rotate_left
  · rintro w' ⟨s0, s1, s2, s3⟩
    go_simp
    with_reducible rfl
  rotate_left
  · simp only [Act.put, List.setIfInBounds_toArray, List.set_cons_zero, List.set_cons_succ, i64_w, i32_w]
    rfl
  refine one_ (i := 11) (N := some 4) #[true, true, true, true, true, true, true, true, true, true, true, true, false] rfl rfl (by kernel_rfl) (by decide) (fun K hK => ?_)
  refine value_ (w1 := ?_) (v := ?_) (by rfl) rfl ?_ ?_
  rotate_left 2
  · go_simp
    constructor
    · rfl
    · rfl
  have hb3 : Below W1.heap.size W1 ((W1.drewN (nq + 1)).alloc (.cells #[.int .i64 0, .int .i64 0] 27)) := below_alloc (w := W1) (pw_below_drewN (Below.refl W1.heap.size W1) (nq + 1)) _
  have hn3 : ((W1.drewN (nq + 1)).alloc (.cells #[.int .i64 0, .int .i64 0] 27)).heap[W.heap.size + 2]? = some (.cells #[.int .i64 0, .int .i64 0] 27 (0, 0)) := by rw [← hz1]; exact heap_alloc_new (W1.drewN (nq + 1)) _
  generalize (W1.drewN (nq + 1)).alloc (.cells #[.int .i64 0, .int .i64 0] 27) = w3 at *
  have HB3 := Aside0.mk hb3
  have i0 := blk_cell hn3 0
  have i1 := blk_cell hn3 1
  have j0 := blk_frozen hn3 0
  have j1 := blk_frozen hn3 1
  have hs4 := HSE.out w3 hb3 hn3
  clear hb3 hn3
  have HS4 := Aside0.mk hs4
  clear hs4
  refine hK.out _ _ ⟨(HB3.out.cell (p := ⟨g, 0, none⟩) HGL.out).trans c0, (HB3.out.cell (p := ⟨g, 1, none⟩) HGL.out).trans c1, (HB3.out.cell (p := ⟨b, o + s.pc.toNat * 2, none⟩) HG.out).trans x0, (HB3.out.cell (p := ⟨b, o + s.pc.toNat * 2 + 1, none⟩) HG.out).trans x1⟩ (fun hHeld => ?_)
  clear hK K
  refine norm_ (a' := ?_) ?_ ?_
  rotate_left
  · show Act.put _ (some 4) _ = _
    simp only [Act.put, List.setIfInBounds_toArray, List.set_cons_zero, List.set_cons_succ, i64_w, i32_w]
    rfl
  refine last_ (i := 12) (N := none) #[true, true, true, true, true, true, true, true, true, true, true, true, true] rfl rfl (by kernel_rfl) (by decide) (fun K hK => ?_)
  refine skip_ (w1 := ?_) (by rfl) rfl ?_ ?_
  rotate_left
  · go_simp
    rfl
  refine hK.out _ _ ?_
  clear hK K
  refine done_ (by kernel_rfl) ?_

  have HS4' : Aside0 _ := HS4
  clear HS4
  generalize (w3.setCell ⟨W.heap.size + 2, 0, none⟩ (.int .i64 23)).setCell ⟨W.heap.size + 2, 1, none⟩ (.int .i64 a) = w4 at *
  have HS4 := HS4'
  clear HS4' c0 c1 x0 x1 i0 i1 j0 j1 HSE hHeld HB3
  obtain ⟨c0, c1, c2, c3, c4, g1, g3⟩ := HS4.out.cells; obtain ⟨b0, b1, b2, h0, h1, h2, l0, l1, l2, i0, i1⟩ := HS4.out.boxes
  obtain ⟨e, re⟩ : ∃ e, E = some ⟨e, 0, none⟩ := row_some h_cal (by omega)
  subst re
  have hcap := own_cap h_cal
  have hcl := HL.out.2
  have tx : wrap64 ((s.ca.length : Int) - 1) = ((s.ca.length - 1 : Nat) : Int) := by unfold wrap64; omega
  have ty : decide (((s.ca.length - 1 : Nat) : Int) < 0) = false := by simp
  have tz : (0 : Int) ≤ ((s.ca.length - 1 : Nat) : Int) := by omega
  have ta : ((s.ca.length - 1 : Nat) : Int) < (s.ca.length : Int) := by omega
  have tb : ((s.ca.length - 1 : Nat) : Int) ≤ (c : Int) := by omega
  have td : s.ca.length - 1 ≤ c := by omega
  have HLA := Aside0.mk (fun (w : World) (ho : w.ownsRow base 3 1 (.slice (some ⟨e, 0, none⟩) s.ca.length c) s.ca.length (nums .i64 s.ca)) => ret_row hx ho)
  generalize s.ca.length - 1 = j at *
  generalize lastP s.ca 0 = lr at *
  clear hx hcap h_cal hcl
  go_wp2_with (first
    | (go_at_call 62; (with_reducible refine (has_calls _ g B s.st.length d 23 a c2 HL.out.1).mono ?_); rintro e w5 ⟨he, hb5⟩; rw [HH.out] at he; subst he; have HS5 := Aside0.mk (HS4.out.step hb5); clear hb5 c0 c1 c2 c3 c4 g1 g3 b0 b1 b2 h0 h1 h2 l0 l1 l2 i0 i1; obtain ⟨c0, c1, c2, c3, c4, g1, g3⟩ := HS5.out.cells; obtain ⟨b0, b1, b2, h0, h1, h2, l0, l1, l2, i0, i1⟩ := HS5.out.boxes))
  obtain ⟨hcc, hcut⟩ := HLA.out w5 HS5.out.m.cal
  have HCUT := Aside0.mk hcut
  clear hcut
  refine start_ (n := 21) (S := fun w' => w'.cell? ⟨g, 3, none⟩ = some (.slice (some ⟨e, 0, none⟩) s.ca.length c) ∧ w'.cell? ⟨e, j, none⟩ = some (.int .i64 lr)) (ds := [20]) #[false, false, false, false, false, false, false, false, false, false, false, false, false, false, false, false, false, false, false, false, false] (by kernel_rfl) rfl rfl ⟨c3, hcc⟩ (fun hHeld => ?_)
  refine pure_ (i := 0) (N := some 192) (v := ?_) (a' := ?_) #[true, false, false, false, false, false, false, false, false, false, false, false, false, false, false, false, false, false, false, false, false] rfl rfl (by kernel_rfl) (fun _ _ _ h => h) (Or.inl ⟨by rfl, ?_⟩) ?_ ?_
  rotate_left
  · intro w'
    go_simp
    with_reducible rfl
  rotate_left
  · simp only [Act.put, List.setIfInBounds_toArray, List.set_cons_zero, List.set_cons_succ, i64_w, i32_w]
    rfl
  refine pure_ (i := 1) (N := some 193) (v := ?_) (a' := ?_) #[true, true, false, false, false, false, false, false, false, false, false, false, false, false, false, false, false, false, false, false, false] rfl rfl (by kernel_rfl) (fun _ _ _ h => h) (Or.inl ⟨by rfl, ?_⟩) ?_ ?_
  rotate_left
  · intro w'
    go_simp
    with_reducible rfl
  rotate_left
  · simp only [Act.put, List.setIfInBounds_toArray, List.set_cons_zero, List.set_cons_succ, i64_w, i32_w]
    rfl
  refine pure_ (i := 2) (N := some 194) (v := ?_) (a' := ?_) #[true, true, true, false, false, false, false, false, false, false, false, false, false, false, false, false, false, false, false, false, false] rfl rfl (by kernel_rfl) (fun _ _ _ h => h) (Or.inl ⟨by rfl, ?_⟩) ?_ ?_
  rotate_left
  · intro w'
    go_simp
    with_reducible rfl
  rotate_left
  · simp only [Act.put, List.setIfInBounds_toArray, List.set_cons_zero, List.set_cons_succ, i64_w, i32_w]
    rfl
  refine pure_ (i := 3) (N := some 195) (v := ?_) (a' := ?_) #[true, true, true, true, false, false, false, false, false, false, false, false, false, false, false, false, false, false, false, false, false] rfl rfl (by kernel_rfl) (fun _ _ _ h => h) (Or.inl ⟨by rfl, ?_⟩) ?_ ?_
  rotate_left
  · intro w'
    go_simp
    with_reducible rfl
  rotate_left
  · simp only [Act.put, List.setIfInBounds_toArray, List.set_cons_zero, List.set_cons_succ, i64_w, i32_w]
    rfl
  refine pure_ (i := 4) (N := some 196) (v := ?_) (a' := ?_) #[true, true, true, true, true, false, false, false, false, false, false, false, false, false, false, false, false, false, false, false, false] rfl rfl (by kernel_rfl) (fun _ _ _ h => h) (Or.inl ⟨by rfl, ?_⟩) ?_ ?_
  rotate_left
  · intro w'
    go_simp
    with_reducible rfl
  rotate_left
  · simp only [Act.put, List.setIfInBounds_toArray, List.set_cons_zero, List.set_cons_succ, i64_w, i32_w]
    rfl
  refine pure_ (i := 6) (N := some 198) (v := ?_) (a' := ?_) #[true, true, true, true, true, false, true, false, false, false, false, false, false, false, false, false, false, false, false, false, false] rfl rfl (by kernel_rfl) (fun _ _ _ h => h) (Or.inl ⟨by rfl, ?_⟩) ?_ ?_
  rotate_left
  · intro w'
    go_simp
    with_reducible rfl
  rotate_left
  · simp only [Act.put, List.setIfInBounds_toArray, List.set_cons_zero, List.set_cons_succ, i64_w, i32_w]
    rfl
  refine pure_ (i := 9) (N := some 201) (v := ?_) (a' := ?_) #[true, true, true, true, true, false, true, false, false, true, false, false, false, false, false, false, false, false, false, false, false] rfl rfl (by kernel_rfl) (fun _ _ _ h => h) (Or.inl ⟨by rfl, ?_⟩) ?_ ?_
  rotate_left
  · intro w'
    go_simp
    with_reducible rfl
  rotate_left
  · simp only [Act.put, List.setIfInBounds_toArray, List.set_cons_zero, List.set_cons_succ, i64_w, i32_w]
    rfl
  refine pure_ (i := 10) (N := some 202) (v := ?_) (a' := ?_) #[true, true, true, true, true, false, true, false, false, true, true, false, false, false, false, false, false, false, false, false, false] rfl rfl (by kernel_rfl) (fun _ _ _ h => h) (Or.inl ⟨by rfl, ?_⟩) ?_ ?_
  rotate_left
  · intro w'
    go_simp
    with_reducible rfl
  rotate_left
  · simp only [Act.put, List.setIfInBounds_toArray, List.set_cons_zero, List.set_cons_succ, i64_w, i32_w]
    rfl
  refine pure_ (i := 11) (N := some 203) (v := ?_) (a' := ?_) #[true, true, true, true, true, false, true, false, false, true, true, true, false, false, false, false, false, false, false, false, false] rfl rfl (by kernel_rfl) (fun _ _ _ h => h) (Or.inl ⟨by rfl, ?_⟩) ?_ ?_
  rotate_left
  · intro w'
    go_simp
    with_reducible rfl
  rotate_left
  · simp only [Act.put, List.setIfInBounds_toArray, List.set_cons_zero, List.set_cons_succ, i64_w, i32_w]
    rfl
  refine pure_ (i := 12) (N := some 204) (v := ?_) (a' := ?_) #[true, true, true, true, true, false, true, false, false, true, true, true, true, false, false, false, false, false, false, false, false] rfl rfl (by kernel_rfl) (fun _ _ _ h => h) (Or.inl ⟨by rfl, ?_⟩) ?_ ?_
  rotate_left
  · intro w'
    go_simp
    with_reducible rfl
  rotate_left
  · simp only [Act.put, List.setIfInBounds_toArray, List.set_cons_zero, List.set_cons_succ, i64_w, i32_w]
    rfl
  refine pure_ (i := 14) (N := some 206) (v := ?_) (a' := ?_) #[true, true, true, true, true, false, true, false, false, true, true, true, true, false, true, false, false, false, false, false, false] rfl rfl (by kernel_rfl) (fun _ _ _ h => h) (Or.inl ⟨by rfl, ?_⟩) ?_ ?_
  rotate_left
  · intro w'
    go_simp
    with_reducible rfl
  rotate_left
  · simp only [Act.put, List.setIfInBounds_toArray, List.set_cons_zero, List.set_cons_succ, i64_w, i32_w]
    rfl
  refine take_ (i := 5) (N := some 197) (v := ?_) (a' := ?_) #[true, true, true, true, true, true, true, false, false, true, true, true, true, false, true, false, false, false, false, false, false] rfl rfl (by kernel_rfl) (fun _ _ _ h => h) (Or.inl ⟨by rfl, ?_⟩) hHeld ?_ ?_
  rotate_left
  · rintro w' ⟨s0, s1⟩
    go_simp
    with_reducible rfl
  rotate_left
  · simp only [Act.put, List.setIfInBounds_toArray, List.set_cons_zero, List.set_cons_succ, i64_w, i32_w]
    rfl
  refine pure_ (i := 7) (N := some 199) (v := ?_) (a' := ?_) #[true, true, true, true, true, true, true, true, false, true, true, true, true, false, true, false, false, false, false, false, false] rfl rfl (by kernel_rfl) (fun _ _ _ h => h) (Or.inl ⟨by rfl, ?_⟩) ?_ ?_
  rotate_left
  · intro w'
    go_simp
    with_reducible rfl
  rotate_left
  · simp only [Act.put, List.setIfInBounds_toArray, List.set_cons_zero, List.set_cons_succ, i64_w, i32_w]
    rfl
  refine take_ (i := 8) (N := some 200) (v := ?_) (a' := ?_) #[true, true, true, true, true, true, true, true, true, true, true, true, true, false, true, false, false, false, false, false, false] rfl rfl (by kernel_rfl) (fun _ _ _ h => h) (Or.inl ⟨by rfl, ?_⟩) hHeld ?_ ?_
  rotate_left
  · rintro w' ⟨s0, s1⟩
    go_simp
    with_reducible rfl
  rotate_left
  · simp only [Act.put, List.setIfInBounds_toArray, List.set_cons_zero, List.set_cons_succ, i64_w, i32_w]
    rfl
  refine pure_ (i := 16) (N := some 5) (v := ?_) (a' := ?_) #[true, true, true, true, true, true, true, true, true, true, true, true, true, false, true, false, true, false, false, false, false] rfl rfl (by kernel_rfl) (fun _ _ _ h => h) (Or.inl ⟨by rfl, ?_⟩) ?_ ?_
  rotate_left
  · intro w'
    go_simp
    with_reducible rfl
  rotate_left
  · simp only [Act.put, List.setIfInBounds_toArray, List.set_cons_zero, List.set_cons_succ, i64_w, i32_w]
    rfl
  refine take_ (i := 13) (N := some 205) (v := ?_) (a' := ?_) #[true, true, true, true, true, true, true, true, true, true, true, true, true, true, true, false, true, false, false, false, false] rfl rfl (by kernel_rfl) (fun _ _ _ h => h) (Or.inl ⟨by rfl, ?_⟩) hHeld ?_ ?_
  rotate_left
  · rintro w' ⟨s0, s1⟩
    go_simp
    with_reducible rfl
  rotate_left
  · simp only [Act.put, List.setIfInBounds_toArray, List.set_cons_zero, List.set_cons_succ, i64_w, i32_w]
    rfl
  refine pure_ (i := 15) (N := some 207) (v := ?_) (a' := ?_) #[true, true, true, true, true, true, true, true, true, true, true, true, true, true, true, true, true, false, false, false, false] rfl rfl (by kernel_rfl) (fun _ _ _ h => h) (Or.inl ⟨by rfl, ?_⟩) ?_ ?_
  rotate_left
  · intro w'
    go_simp
    with_reducible rfl
  rotate_left
  · simp only [Act.put, List.setIfInBounds_toArray, List.set_cons_zero, List.set_cons_succ, i64_w, i32_w]
    rfl
  refine pure_ (i := 17) (N := some 208) (v := ?_) (a' := ?_) #[true, true, true, true, true, true, true, true, true, true, true, true, true, true, true, true, true, true, false, false, false] rfl rfl (by kernel_rfl) (fun _ _ _ h => h) (Or.inl ⟨by rfl, ?_⟩) ?_ ?_
  rotate_left
  · intro w'
    go_simp
    with_reducible rfl
  rotate_left
  · simp only [Act.put, List.setIfInBounds_toArray, List.set_cons_zero, List.set_cons_succ, i64_w, i32_w]
    rfl
  refine pure_ (i := 18) (N := some 209) (v := ?_) (a' := ?_) #[true, true, true, true, true, true, true, true, true, true, true, true, true, true, true, true, true, true, true, false, false] rfl rfl (by kernel_rfl) (fun _ _ _ h => h) (Or.inl ⟨by rfl, ?_⟩) ?_ ?_
  rotate_left
  · intro w'
    go_simp
    with_reducible rfl
  rotate_left
  · simp only [Act.put, List.setIfInBounds_toArray, List.set_cons_zero, List.set_cons_succ, i64_w, i32_w]
    rfl
  refine pure_ (i := 19) (N := some 210) (v := ?_) (a' := ?_) #[true, true, true, true, true, true, true, true, true, true, true, true, true, true, true, true, true, true, true, true, false] rfl rfl (by kernel_rfl) (fun _ _ _ h => h) (Or.inl ⟨by rfl, ?_⟩) ?_ ?_
  rotate_left
  · intro w'
    go_simp
    with_reducible rfl
  rotate_left
  · simp only [Act.put, List.setIfInBounds_toArray, List.set_cons_zero, List.set_cons_succ, i64_w, i32_w]
    rfl
  refine last_ (i := 20) (N := none) #[true, true, true, true, true, true, true, true, true, true, true, true, true, true, true, true, true, true, true, true, true] rfl rfl (by kernel_rfl) (by decide) (fun K hK => ?_)
  refine skip_ (w1 := ?_) (by rfl) rfl ?_ ?_
  rotate_left
  · go_simp
    rfl
  refine hK.out _ _ ?_
  clear hK K
  refine done_ (by kernel_rfl) ?_

  have HS6 := Aside0.mk ((HS5.out.called HFL.out (w1 := w5) (v2' := .slice (some ⟨e, 0, none⟩) j c) (l := cutP s.ca 1) HCUT.out (World.grownBy.refl _ _) (.inl rfl)).step (below_drew (Below.refl _ _)))
  clear HCUT hcc
  generalize (w5.setCell ⟨g, 3, none⟩ (.slice (some ⟨e, 0, none⟩) j c)).drew = w6 at *
  clear c0 c1 c2 c3 c4 g1 g3 b0 b1 b2 h0 h1 h2 l0 l1 l2 i0 i1
  obtain ⟨c0, c1, c2, c3, c4, g1, g3⟩ := HS6.out.cells; obtain ⟨b0, b1, b2, h0, h1, h2, l0, l1, l2, i0, i1⟩ := HS6.out.boxes
  go_wp2
  have HF := HS6.out.pc HFL.out (lr)
  have hz := blk_set (blk_set (blk_set HF.res 0 (.int .i64 0)) 1 (.int .i64 0)) 2 (.int .i64 0)
  have e0 := (blk_cell hz 0).trans (show _ = some (Value.int .i64 0) from rfl)
  have e1 := (blk_cell hz 1).trans (show _ = some (Value.int .i64 0) from rfl)
  have e2 := (blk_cell hz 2).trans (show _ = some (Value.int .i64 0) from rfl)
  exact bodyPost_ret (v := .agg #[.int .i64 0, .int .i64 0, .int .i64 0]) (by simp [results, Try.results54, go_sem, e0, e1, e2]) rfl (HF.told 0 0 0 HFL.out HR.out rfl)
set_option maxHeartbeats 8000000 in
set_option maxRecDepth 100000 in
theorem step_loadno (W : World) (base g : Nat) (Ac : Option Addr) (cc : Nat) (code : List In) (p : Value) (f : Nat → Prop) (v1 v2 : Value) (s : St) (m : Mem) (h : Mach W base g Ac cc code p f v1 v2 s m) (hbase : base ≤ W.heap.size) (hs : mayP s code.length) (hlt : s.pc < (code.length : Int)) (hlen : code.length ≤ 1024) (a : Int) (m' : Mem) (y : Int) (hx : memK.load m (lastP s.st 0) = (m', y, false)) (hop : inAt code s.pc = ⟨18, a⟩) (hh : hasP 18 a s.st.length = true) : Calls Try.prog 54 #[.pointer (some ⟨g, 0, none⟩)] W (StepPost W base g Ac cc code p f v1 v2 (stepP memK code s m)) := by
  have HH := Aside0.mk hh
  have HT := Aside0.mk (show 1 ≤ s.st.length from by unfold hasP at hh; simp at hh; omega)
  have HR := Aside0.mk (show stepP memK code s m = (s, m', 4, 0) from by unfold stepP; rw [if_neg (by omega), hop, if_neg (by rw [hh]; simp)]; simp [opP, cutP_zero, *])
  clear hh
  obtain ⟨hp0, hp1, hl, hcl, _⟩ := hs
  have hfl := h.mem.lt
  obtain ⟨B, d, rfl⟩ : ∃ B d, v1 = .slice B s.st.length d := own_slice h.stk
  obtain ⟨E, c, rfl⟩ : ∃ E c, v2 = .slice E s.ca.length c := own_slice h.cal
  have HFL := Aside0.mk (show ∀ k, f k → k < W.heap.size ∨ W.heap.size + 3 ≤ k from fun k hk => .inl (hfl k hk))

  obtain ⟨b, o, rfl, hbw, hcell⟩ := code_at h.cde (by omega)
  obtain ⟨x0, x1⟩ := hcell s.pc.toNat (by omega)
  rw [Int.toNat_of_nonneg hp0, hop] at x0 x1
  generalize hW : ((W.alloc (.cells #[.int .i64 0, .int .i64 0, .int .i64 0] 53)).alloc (.cells #[.int .i64 4, .int .i64 0, .int .i64 0] 53)) = W1 at *
  have hb1 := below_alloc (below_alloc (Below.refl W.heap.size W) (.cells #[.int .i64 0, .int .i64 0, .int .i64 0] 53)) (.cells #[.int .i64 4, .int .i64 0, .int .i64 0] 53)
  rw [hW] at hb1
  have hz1 : W1.heap.size = W.heap.size + 2 := by rw [← hW]; simp
  have y0 : W1.heap[W.heap.size]? = some (.cells #[.int .i64 0, .int .i64 0, .int .i64 0] 53 (0, 0)) := by
    rw [← hW]; exact (heap_alloc_old _ _ (by simp)).trans (heap_alloc_new W _)
  have y1 : W1.heap[W.heap.size + 1]? = some (.cells #[.int .i64 4, .int .i64 0, .int .i64 0] 53 (0, 0)) := by
    rw [← hW]
    have := heap_alloc_new (W.alloc (.cells #[.int .i64 0, .int .i64 0, .int .i64 0] 53)) (.cells #[.int .i64 4, .int .i64 0, .int .i64 0] 53)
    simpa using this
  have hm1 := h.step hb1
  have c0 : W1.cell? ⟨g, 0, none⟩ = some (.slice (some ⟨b, o, none⟩) code.length cc) := blk_cell hm1.box 0
  have c1 : W1.cell? ⟨g, 1, none⟩ = some (.int .i64 s.pc) := blk_cell hm1.box 1
  replace x0 := (hb1.cell (p := ⟨b, o + s.pc.toNat * 2, none⟩) hbw).trans x0
  replace x1 := (hb1.cell (p := ⟨b, o + s.pc.toNat * 2 + 1, none⟩) hbw).trans x1
  have t0 : (s.pc == (code.length : Int)) = false := by simp; omega
  have e1 : wrap64 (s.pc + 1) = s.pc + 1 := by unfold wrap64; omega
  have n0 : (W.heap.size = g) = False := eq_false (by have := h.gl; omega)
  have n1 : (g = W.heap.size) = False := eq_false (by have := h.gl; omega)
  have n2 : (W.heap.size + 2 = g) = False := eq_false (by have := h.gl; omega)
  have n3 : (g = W.heap.size + 2) = False := eq_false (by have := h.gl; omega)
  have HSE := Aside0.mk (fun (w3 : World) (hb : Below W1.heap.size W1 w3) hn => SE.init h hbase hb1 hz1 y0 y1 hb (w3 := w3) hn 18 a)
  have HW := Aside0.mk hW
  have HM1 := Aside0.mk hm1
  have HZ := Aside0.mk hz1
  have HG := Aside0.mk (show b < W1.heap.size from Nat.lt_of_lt_of_le hbw hb1.size)
  have HGL := Aside0.mk hm1.gl
  have k0 : (0 : Int) ≤ s.pc := hp0
  have k1 : s.pc < (code.length : Int) := hlt
  have HL := Aside0.mk (And.intro hl hcl)
  have h_cal := h.cal
  have h_mem := h.mem
  clear h hbase hfl hcell hW hb1 y0 y1 hm1 hp0 hp1 hlt hl hcl
  go_enter Try.func54, Try.ntmps54
  go_wp2
  rw [HW.out]
  go_quiet (fail)
  go_wp2
  refine start_ (n := 13) (S := fun w' => w'.cell? ⟨g, 0, none⟩ = some (.slice (some ⟨b, o, none⟩) code.length cc) ∧ w'.cell? ⟨g, 1, none⟩ = some (.int .i64 s.pc) ∧ w'.cell? ⟨b, o + s.pc.toNat * 2, none⟩ = some (.int .i64 18) ∧ w'.cell? ⟨b, o + s.pc.toNat * 2 + 1, none⟩ = some (.int .i64 a)) (ds := [12]) #[false, false, false, false, false, false, false, false, false, false, false, false, false] (by kernel_rfl) rfl rfl ⟨c0, c1, x0, x1⟩ (fun hHeld => ?_)
  refine pure_ (i := 0) (N := some 24) (v := ?_) (a' := ?_) #[true, false, false, false, false, false, false, false, false, false, false, false, false] rfl rfl (by kernel_rfl) (fun _ _ _ h => h) (Or.inl ⟨by rfl, ?_⟩) ?_ ?_
  rotate_left
  · intro w'
    go_simp
    with_reducible rfl
  rotate_left
  · simp only [Act.put, List.setIfInBounds_toArray, List.set_cons_zero, List.set_cons_succ, i64_w, i32_w]
    rfl
  refine pure_ (i := 1) (N := some 25) (v := ?_) (a' := ?_) #[true, true, false, false, false, false, false, false, false, false, false, false, false] rfl rfl (by kernel_rfl) (fun _ _ _ h => h) (Or.inl ⟨by rfl, ?_⟩) ?_ ?_
  rotate_left
  · intro w'
    go_simp
    with_reducible rfl
  rotate_left
  · simp only [Act.put, List.setIfInBounds_toArray, List.set_cons_zero, List.set_cons_succ, i64_w, i32_w]
    rfl
  refine pure_ (i := 2) (N := some 26) (v := ?_) (a' := ?_) #[true, true, true, false, false, false, false, false, false, false, false, false, false] rfl rfl (by kernel_rfl) (fun _ _ _ h => h) (Or.inl ⟨by rfl, ?_⟩) ?_ ?_
  rotate_left
  · intro w'
    go_simp
    with_reducible rfl
  rotate_left
  · simp only [Act.put, List.setIfInBounds_toArray, List.set_cons_zero, List.set_cons_succ, i64_w, i32_w]
    rfl
  refine pure_ (i := 4) (N := some 28) (v := ?_) (a' := ?_) #[true, true, true, false, true, false, false, false, false, false, false, false, false] rfl rfl (by kernel_rfl) (fun _ _ _ h => h) (Or.inl ⟨by rfl, ?_⟩) ?_ ?_
  rotate_left
  · intro w'
    go_simp
    with_reducible rfl
  rotate_left
  · simp only [Act.put, List.setIfInBounds_toArray, List.set_cons_zero, List.set_cons_succ, i64_w, i32_w]
    rfl
  refine pure_ (i := 5) (N := some 29) (v := ?_) (a' := ?_) #[true, true, true, false, true, true, false, false, false, false, false, false, false] rfl rfl (by kernel_rfl) (fun _ _ _ h => h) (Or.inl ⟨by rfl, ?_⟩) ?_ ?_
  rotate_left
  · intro w'
    go_simp
    with_reducible rfl
  rotate_left
  · simp only [Act.put, List.setIfInBounds_toArray, List.set_cons_zero, List.set_cons_succ, i64_w, i32_w]
    rfl
  refine pure_ (i := 6) (N := some 30) (v := ?_) (a' := ?_) #[true, true, true, false, true, true, true, false, false, false, false, false, false] rfl rfl (by kernel_rfl) (fun _ _ _ h => h) (Or.inl ⟨by rfl, ?_⟩) ?_ ?_
  rotate_left
  · intro w'
    go_simp
    with_reducible rfl
  rotate_left
  · simp only [Act.put, List.setIfInBounds_toArray, List.set_cons_zero, List.set_cons_succ, i64_w, i32_w]
    rfl
  refine pure_ (i := 7) (N := some 31) (v := ?_) (a' := ?_) #[true, true, true, false, true, true, true, true, false, false, false, false, false] rfl rfl (by kernel_rfl) (fun _ _ _ h => h) (Or.inl ⟨by rfl, ?_⟩) ?_ ?_
  rotate_left
  · intro w'
    go_simp
    with_reducible rfl
  rotate_left
  · simp only [Act.put, List.setIfInBounds_toArray, List.set_cons_zero, List.set_cons_succ, i64_w, i32_w]
    rfl
  refine take_ (i := 3) (N := some 27) (v := ?_) (a' := ?_) #[true, true, true, true, true, true, true, true, false, false, false, false, false] rfl rfl (by kernel_rfl) (fun _ _ _ h => h) (Or.inl ⟨by rfl, ?_⟩) hHeld ?_ ?_
  rotate_left
  · rintro w' ⟨s0, s1, s2, s3⟩
    go_simp
    with_reducible rfl
  rotate_left
  · simp only [Act.put, List.setIfInBounds_toArray, List.set_cons_zero, List.set_cons_succ, i64_w, i32_w]
    rfl
  refine take_ (i := 8) (N := some 32) (v := ?_) (a' := ?_) #[true, true, true, true, true, true, true, true, true, false, false, false, false] rfl rfl (by kernel_rfl) (fun _ _ _ h => h) (Or.inl ⟨by rfl, ?_⟩) hHeld ?_ ?_
  rotate_left
  · rintro w' ⟨s0, s1, s2, s3⟩
    go_simp
    with_reducible rfl
  rotate_left
  · simp only [Act.put, List.setIfInBounds_toArray, List.set_cons_zero, List.set_cons_succ, i64_w, i32_w]
    rfl
  refine pure_ (i := 9) (N := some 33) (v := ?_) (a' := ?_) #[true, true, true, true, true, true, true, true, true, true, false, false, false] rfl rfl (by kernel_rfl) (fun _ _ _ h => h) (Or.inl ⟨by rfl, ?_⟩) ?_ ?_
  rotate_left
  · intro w'
    go_simp
    with_reducible rfl
  rotate_left
  · simp only [Act.put, List.setIfInBounds_toArray, List.set_cons_zero, List.set_cons_succ, i64_w, i32_w]
    rfl
  refine take_ (i := 10) (N := some 34) (v := ?_) (a' := ?_) #[true, true, true, true, true, true, true, true, true, true, true, false, false] rfl rfl (by kernel_rfl) (fun _ _ _ h => h) (Or.inl ⟨by rfl, ?_⟩) hHeld ?_ ?_
  rotate_left
  · rintro w' ⟨s0, s1, s2, s3⟩
    go_simp
    with_reducible rfl
  rotate_left
  · simp only [Act.put, List.setIfInBounds_toArray, List.set_cons_zero, List.set_cons_succ, i64_w, i32_w]
    rfl
  refine one_ (i := 11) (N := some 4) #[true, true, true, true, true, true, true, true, true, true, true, true, false] rfl rfl (by kernel_rfl) (by decide) (fun K hK => ?_)
  refine value_ (w1 := ?_) (v := ?_) (by rfl) rfl ?_ ?_
  rotate_left 2
  · go_simp
    constructor
    · rfl
    · rfl
  have hb3 : Below W1.heap.size W1 ((W1.drewN (nq + 1)).alloc (.cells #[.int .i64 0, .int .i64 0] 27)) := below_alloc (w := W1) (pw_below_drewN (Below.refl W1.heap.size W1) (nq + 1)) _
  have hn3 : ((W1.drewN (nq + 1)).alloc (.cells #[.int .i64 0, .int .i64 0] 27)).heap[W.heap.size + 2]? = some (.cells #[.int .i64 0, .int .i64 0] 27 (0, 0)) := by rw [← hz1]; exact heap_alloc_new (W1.drewN (nq + 1)) _
  generalize (W1.drewN (nq + 1)).alloc (.cells #[.int .i64 0, .int .i64 0] 27) = w3 at *
  have HB3 := Aside0.mk hb3
  have i0 := blk_cell hn3 0
  have i1 := blk_cell hn3 1
  have j0 := blk_frozen hn3 0
  have j1 := blk_frozen hn3 1
  have hs4 := HSE.out w3 hb3 hn3
  clear hb3 hn3
  have HS4 := Aside0.mk hs4
  clear hs4
  refine hK.out _ _ ⟨(HB3.out.cell (p := ⟨g, 0, none⟩) HGL.out).trans c0, (HB3.out.cell (p := ⟨g, 1, none⟩) HGL.out).trans c1, (HB3.out.cell (p := ⟨b, o + s.pc.toNat * 2, none⟩) HG.out).trans x0, (HB3.out.cell (p := ⟨b, o + s.pc.toNat * 2 + 1, none⟩) HG.out).trans x1⟩ (fun hHeld => ?_)
  clear hK K
  refine norm_ (a' := ?_) ?_ ?_
  rotate_left
  · show Act.put _ (some 4) _ = _
    simp only [Act.put, List.setIfInBounds_toArray, List.set_cons_zero, List.set_cons_succ, i64_w, i32_w]
    rfl
  refine last_ (i := 12) (N := none) #[true, true, true, true, true, true, true, true, true, true, true, true, true] rfl rfl (by kernel_rfl) (by decide) (fun K hK => ?_)
  refine skip_ (w1 := ?_) (by rfl) rfl ?_ ?_
  rotate_left
  · go_simp
    rfl
  refine hK.out _ _ ?_
  clear hK K
  refine done_ (by kernel_rfl) ?_

  have HS4' : Aside0 _ := HS4
  clear HS4
  generalize (w3.setCell ⟨W.heap.size + 2, 0, none⟩ (.int .i64 18)).setCell ⟨W.heap.size + 2, 1, none⟩ (.int .i64 a) = w4 at *
  have HS4 := HS4'
  clear HS4' c0 c1 x0 x1 i0 i1 j0 j1 HSE hHeld HB3
  obtain ⟨c0, c1, c2, c3, c4, g1, g3⟩ := HS4.out.cells; obtain ⟨b0, b1, b2, h0, h1, h2, l0, l1, l2, i0, i1⟩ := HS4.out.boxes
  obtain ⟨ad, rfl⟩ := h_mem.ptr
  have HX := Aside0.mk hx
  clear hx h_mem
  go_wp2_with (first
    | (go_at_call 62; (with_reducible refine (has_calls _ g B s.st.length d 18 a c2 HL.out.1).mono ?_); rintro e w5 ⟨he, hb5⟩; rw [HH.out] at he; subst he; have HS5 := Aside0.mk (HS4.out.step hb5); clear hb5 c0 c1 c2 c3 c4 g1 g3 b0 b1 b2 h0 h1 h2 l0 l1 l2 i0 i1; obtain ⟨c0, c1, c2, c3, c4, g1, g3⟩ := HS5.out.cells; obtain ⟨b0, b1, b2, h0, h1, h2, l0, l1, l2, i0, i1⟩ := HS5.out.boxes))
  refine start_ (n := 14) (S := fun w' => w'.cell? ⟨g, 4, none⟩ = some (.iface 94 (.pointer (some ad)))) (ds := []) #[false, false, false, false, false, false, false, false, false, false, false, false, false, false] (by kernel_rfl) rfl rfl (c4) (fun hHeld => ?_)
  refine pure_ (i := 0) (N := some 106) (v := ?_) (a' := ?_) #[true, false, false, false, false, false, false, false, false, false, false, false, false, false] rfl rfl (by kernel_rfl) (fun _ _ _ h => h) (Or.inl ⟨by rfl, ?_⟩) ?_ ?_
  rotate_left
  · intro w'
    go_simp
    with_reducible rfl
  rotate_left
  · simp only [Act.put, List.setIfInBounds_toArray, List.set_cons_zero, List.set_cons_succ, i64_w, i32_w]
    rfl
  refine pure_ (i := 1) (N := some 107) (v := ?_) (a' := ?_) #[true, true, false, false, false, false, false, false, false, false, false, false, false, false] rfl rfl (by kernel_rfl) (fun _ _ _ h => h) (Or.inl ⟨by rfl, ?_⟩) ?_ ?_
  rotate_left
  · intro w'
    go_simp
    with_reducible rfl
  rotate_left
  · simp only [Act.put, List.setIfInBounds_toArray, List.set_cons_zero, List.set_cons_succ, i64_w, i32_w]
    rfl
  refine pure_ (i := 2) (N := some 108) (v := ?_) (a' := ?_) #[true, true, true, false, false, false, false, false, false, false, false, false, false, false] rfl rfl (by kernel_rfl) (fun _ _ _ h => h) (Or.inl ⟨by rfl, ?_⟩) ?_ ?_
  rotate_left
  · intro w'
    go_simp
    with_reducible rfl
  rotate_left
  · simp only [Act.put, List.setIfInBounds_toArray, List.set_cons_zero, List.set_cons_succ, i64_w, i32_w]
    rfl
  refine pure_ (i := 4) (N := some 110) (v := ?_) (a' := ?_) #[true, true, true, false, true, false, false, false, false, false, false, false, false, false] rfl rfl (by kernel_rfl) (fun _ _ _ h => h) (Or.inl ⟨by rfl, ?_⟩) ?_ ?_
  rotate_left
  · intro w'
    go_simp
    with_reducible rfl
  rotate_left
  · simp only [Act.put, List.setIfInBounds_toArray, List.set_cons_zero, List.set_cons_succ, i64_w, i32_w]
    rfl
  refine take_ (i := 3) (N := some 109) (v := ?_) (a' := ?_) #[true, true, true, true, true, false, false, false, false, false, false, false, false, false] rfl rfl (by kernel_rfl) (fun _ _ _ h => h) (Or.inl ⟨by rfl, ?_⟩) hHeld ?_ ?_
  rotate_left
  · intro w' s0
    go_simp
    with_reducible rfl
  rotate_left
  · simp only [Act.put, List.setIfInBounds_toArray, List.set_cons_zero, List.set_cons_succ, i64_w, i32_w]
    rfl
  refine pure_ (i := 6) (N := some 112) (v := ?_) (a' := ?_) #[true, true, true, true, true, false, true, false, false, false, false, false, false, false] rfl rfl (by kernel_rfl) (fun _ _ _ h => h) (Or.inl ⟨by rfl, ?_⟩) ?_ ?_
  rotate_left
  · intro w'
    go_simp
    with_reducible rfl
  rotate_left
  · simp only [Act.put, List.setIfInBounds_toArray, List.set_cons_zero, List.set_cons_succ, i64_w, i32_w]
    rfl
  refine pure_ (i := 7) (N := some 113) (v := ?_) (a' := ?_) #[true, true, true, true, true, false, true, true, false, false, false, false, false, false] rfl rfl (by kernel_rfl) (fun _ _ _ h => h) (Or.inl ⟨by rfl, ?_⟩) ?_ ?_
  rotate_left
  · intro w'
    go_simp
    with_reducible rfl
  rotate_left
  · simp only [Act.put, List.setIfInBounds_toArray, List.set_cons_zero, List.set_cons_succ, i64_w, i32_w]
    rfl
  refine one_ (i := 5) (N := some 111) #[true, true, true, true, true, true, true, true, false, false, false, false, false, false] rfl rfl (by kernel_rfl) (by decide) (fun K hK => ?_)
  refine goes_ Try.func64 (by kernel_rfl) rfl #[.pointer (some ⟨g, 0, none⟩), .int .i64 0] (by rfl) rfl rfl (by simp only [List.map_toArray, List.map_cons, List.map_nil]; rfl) ?_
  with_reducible refine (SE.lastc (HS5.out.step (below_drew (Below.refl _ _))) HL.out.1 0 0 rfl (by have := HT.out; omega)).mono ?_
  rintro e w6 ⟨rfl, hs6⟩
  refine ⟨_, rfl, ?_⟩
  have HS6 := Aside0.mk hs6
  clear hs6
  clear c0 c1 c2 c3 c4 g1 g3 b0 b1 b2 h0 h1 h2 l0 l1 l2 i0 i1
  obtain ⟨c0, c1, c2, c3, c4, g1, g3⟩ := HS6.out.cells; obtain ⟨b0, b1, b2, h0, h1, h2, l0, l1, l2, i0, i1⟩ := HS6.out.boxes
  refine hK.out _ _ (c4) (fun hHeld => ?_)
  clear hK K
  refine norm_ (a' := ?_) ?_ ?_
  rotate_left
  · show Act.put _ (some 111) _ = _
    simp only [Act.put, List.setIfInBounds_toArray, List.set_cons_zero, List.set_cons_succ, i64_w, i32_w]
    rfl
  refine one_ (i := 8) (N := some 114) #[true, true, true, true, true, true, true, true, true, false, false, false, false, false] rfl rfl (by kernel_rfl) (by decide) (fun K hK => ?_)
  refine goesI_ Try.func30 (by kernel_rfl) rfl (method_load _) #[.int .i64 (lastP s.st 0)] (by rfl) rfl rfl (by rfl) (by simp only [List.map_toArray, List.map_cons, List.map_nil]; rfl) #[.pointer (some ad), .int .i64 (lastP s.st 0)] (by rfl) ?_
  with_reducible refine (HS6.out.loadc HFL.out HX.out).mono ?_
  rintro e w7 ⟨f7, rfl, hs7, hf7⟩
  refine ⟨_, rfl, ?_⟩
  have HS7 := Aside0.mk hs7
  have HF7 := Aside0.mk hf7
  clear hs7 hf7
  clear c0 c1 c2 c3 c4 g1 g3 b0 b1 b2 h0 h1 h2 l0 l1 l2 i0 i1
  obtain ⟨c0, c1, c2, c3, c4, g1, g3⟩ := HS7.out.cells; obtain ⟨b0, b1, b2, h0, h1, h2, l0, l1, l2, i0, i1⟩ := HS7.out.boxes
  refine hK.out _ _ (c4) (fun hHeld => ?_)
  clear hK K
  refine norm_ (a' := ?_) ?_ ?_
  rotate_left
  · show Act.put _ (some 114) _ = _
    simp only [Act.put, List.setIfInBounds_toArray, List.set_cons_zero, List.set_cons_succ, i64_w, i32_w]
    rfl
  refine pure_ (i := 9) (N := some 105) (v := ?_) (a' := ?_) #[true, true, true, true, true, true, true, true, true, true, false, false, false, false] rfl rfl (by kernel_rfl) (fun _ _ _ h => h) (Or.inl ⟨by rfl, ?_⟩) ?_ ?_
  rotate_left
  · intro w'
    go_simp
    with_reducible rfl
  rotate_left
  · simp only [Act.put, List.setIfInBounds_toArray, List.set_cons_zero, List.set_cons_succ, i64_w, i32_w]
    rfl
  refine pure_ (i := 10) (N := some 115) (v := ?_) (a' := ?_) #[true, true, true, true, true, true, true, true, true, true, true, false, false, false] rfl rfl (by kernel_rfl) (fun _ _ _ h => h) (Or.inl ⟨by rfl, ?_⟩) ?_ ?_
  rotate_left
  · intro w'
    go_simp
    with_reducible rfl
  rotate_left
  · simp only [Act.put, List.setIfInBounds_toArray, List.set_cons_zero, List.set_cons_succ, i64_w, i32_w]
    rfl
  refine pure_ (i := 11) (N := some 116) (v := ?_) (a' := ?_) #[true, true, true, true, true, true, true, true, true, true, true, true, false, false] rfl rfl (by kernel_rfl) (fun _ _ _ h => h) (Or.inl ⟨by rfl, ?_⟩) ?_ ?_
  rotate_left
  · intro w'
    go_simp
    with_reducible rfl
  rotate_left
  · simp only [Act.put, List.setIfInBounds_toArray, List.set_cons_zero, List.set_cons_succ, i64_w, i32_w]
    rfl
  refine pure_ (i := 12) (N := some 6) (v := ?_) (a' := ?_) #[true, true, true, true, true, true, true, true, true, true, true, true, true, false] rfl rfl (by kernel_rfl) (fun _ _ _ h => h) (Or.inl ⟨by rfl, ?_⟩) ?_ ?_
  rotate_left
  · intro w'
    go_simp
    with_reducible rfl
  rotate_left
  · simp only [Act.put, List.setIfInBounds_toArray, List.set_cons_zero, List.set_cons_succ, i64_w, i32_w]
    rfl
  refine pure_ (i := 13) (N := some 7) (v := ?_) (a' := ?_) #[true, true, true, true, true, true, true, true, true, true, true, true, true, true] rfl rfl (by kernel_rfl) (fun _ _ _ h => h) (Or.inl ⟨by rfl, ?_⟩) ?_ ?_
  rotate_left
  · intro w'
    go_simp
    with_reducible rfl
  rotate_left
  · simp only [Act.put, List.setIfInBounds_toArray, List.set_cons_zero, List.set_cons_succ, i64_w, i32_w]
    rfl
  refine done_ (by kernel_rfl) ?_

  go_wp2
  have HF := HS7.out
  have hz := blk_set (blk_set (blk_set HF.res 0 (.int .i64 4)) 1 (.int .i64 0)) 2 (.int .i64 0)
  have e0 := (blk_cell hz 0).trans (show _ = some (Value.int .i64 4) from rfl)
  have e1 := (blk_cell hz 1).trans (show _ = some (Value.int .i64 0) from rfl)
  have e2 := (blk_cell hz 2).trans (show _ = some (Value.int .i64 0) from rfl)
  exact bodyPost_ret (v := .agg #[.int .i64 4, .int .i64 0, .int .i64 0]) (by simp [results, Try.results54, go_sem, e0, e1, e2]) rfl (HF.told 4 0 0 HF7.out HR.out rfl)
set_option maxHeartbeats 8000000 in
set_option maxRecDepth 100000 in
theorem step_load (W : World) (base g : Nat) (Ac : Option Addr) (cc : Nat) (code : List In) (p : Value) (f : Nat → Prop) (v1 v2 : Value) (s : St) (m : Mem) (h : Mach W base g Ac cc code p f v1 v2 s m) (hbase : base ≤ W.heap.size) (hs : mayP s code.length) (hlt : s.pc < (code.length : Int)) (hlen : code.length ≤ 1024) (a : Int) (m' : Mem) (y : Int) (hx : memK.load m (lastP s.st 0) = (m', y, true)) (hop : inAt code s.pc = ⟨18, a⟩) (hh : hasP 18 a s.st.length = true) : Calls Try.prog 54 #[.pointer (some ⟨g, 0, none⟩)] W (StepPost W base g Ac cc code p f v1 v2 (stepP memK code s m)) := by
  have HH := Aside0.mk hh
  have HT := Aside0.mk (show 1 ≤ s.st.length from by unfold hasP at hh; simp at hh; omega)
  have HR := Aside0.mk (show stepP memK code s m = (⟨s.pc + 1, cutP s.st 1 ++ [y], s.ca⟩, m', 0, 0) from by unfold stepP; rw [if_neg (by omega), hop, if_neg (by rw [hh]; simp)]; simp [opP, cutP_zero, *])
  clear hh
  obtain ⟨hp0, hp1, hl, hcl, _⟩ := hs
  have hfl := h.mem.lt
  obtain ⟨B, d, rfl⟩ : ∃ B d, v1 = .slice B s.st.length d := own_slice h.stk
  obtain ⟨E, c, rfl⟩ : ∃ E c, v2 = .slice E s.ca.length c := own_slice h.cal
  have HFL := Aside0.mk (show ∀ k, f k → k < W.heap.size ∨ W.heap.size + 3 ≤ k from fun k hk => .inl (hfl k hk))

  obtain ⟨b, o, rfl, hbw, hcell⟩ := code_at h.cde (by omega)
  obtain ⟨x0, x1⟩ := hcell s.pc.toNat (by omega)
  rw [Int.toNat_of_nonneg hp0, hop] at x0 x1
  generalize hW : ((W.alloc (.cells #[.int .i64 0, .int .i64 0, .int .i64 0] 53)).alloc (.cells #[.int .i64 4, .int .i64 0, .int .i64 0] 53)) = W1 at *
  have hb1 := below_alloc (below_alloc (Below.refl W.heap.size W) (.cells #[.int .i64 0, .int .i64 0, .int .i64 0] 53)) (.cells #[.int .i64 4, .int .i64 0, .int .i64 0] 53)
  rw [hW] at hb1
  have hz1 : W1.heap.size = W.heap.size + 2 := by rw [← hW]; simp
  have y0 : W1.heap[W.heap.size]? = some (.cells #[.int .i64 0, .int .i64 0, .int .i64 0] 53 (0, 0)) := by
    rw [← hW]; exact (heap_alloc_old _ _ (by simp)).trans (heap_alloc_new W _)
  have y1 : W1.heap[W.heap.size + 1]? = some (.cells #[.int .i64 4, .int .i64 0, .int .i64 0] 53 (0, 0)) := by
    rw [← hW]
    have := heap_alloc_new (W.alloc (.cells #[.int .i64 0, .int .i64 0, .int .i64 0] 53)) (.cells #[.int .i64 4, .int .i64 0, .int .i64 0] 53)
    simpa using this
  have hm1 := h.step hb1
  have c0 : W1.cell? ⟨g, 0, none⟩ = some (.slice (some ⟨b, o, none⟩) code.length cc) := blk_cell hm1.box 0
  have c1 : W1.cell? ⟨g, 1, none⟩ = some (.int .i64 s.pc) := blk_cell hm1.box 1
  replace x0 := (hb1.cell (p := ⟨b, o + s.pc.toNat * 2, none⟩) hbw).trans x0
  replace x1 := (hb1.cell (p := ⟨b, o + s.pc.toNat * 2 + 1, none⟩) hbw).trans x1
  have t0 : (s.pc == (code.length : Int)) = false := by simp; omega
  have e1 : wrap64 (s.pc + 1) = s.pc + 1 := by unfold wrap64; omega
  have n0 : (W.heap.size = g) = False := eq_false (by have := h.gl; omega)
  have n1 : (g = W.heap.size) = False := eq_false (by have := h.gl; omega)
  have n2 : (W.heap.size + 2 = g) = False := eq_false (by have := h.gl; omega)
  have n3 : (g = W.heap.size + 2) = False := eq_false (by have := h.gl; omega)
  have HSE := Aside0.mk (fun (w3 : World) (hb : Below W1.heap.size W1 w3) hn => SE.init h hbase hb1 hz1 y0 y1 hb (w3 := w3) hn 18 a)
  have HW := Aside0.mk hW
  have HM1 := Aside0.mk hm1
  have HZ := Aside0.mk hz1
  have HG := Aside0.mk (show b < W1.heap.size from Nat.lt_of_lt_of_le hbw hb1.size)
  have HGL := Aside0.mk hm1.gl
  have k0 : (0 : Int) ≤ s.pc := hp0
  have k1 : s.pc < (code.length : Int) := hlt
  have HL := Aside0.mk (And.intro hl hcl)
  have h_cal := h.cal
  have h_mem := h.mem
  clear h hbase hfl hcell hW hb1 y0 y1 hm1 hp0 hp1 hlt hl hcl
  go_enter Try.func54, Try.ntmps54
  go_wp2
  rw [HW.out]
  go_quiet (fail)
  go_wp2
  refine start_ (n := 13) (S := fun w' => w'.cell? ⟨g, 0, none⟩ = some (.slice (some ⟨b, o, none⟩) code.length cc) ∧ w'.cell? ⟨g, 1, none⟩ = some (.int .i64 s.pc) ∧ w'.cell? ⟨b, o + s.pc.toNat * 2, none⟩ = some (.int .i64 18) ∧ w'.cell? ⟨b, o + s.pc.toNat * 2 + 1, none⟩ = some (.int .i64 a)) (ds := [12]) #[false, false, false, false, false, false, false, false, false, false, false, false, false] (by kernel_rfl) rfl rfl ⟨c0, c1, x0, x1⟩ (fun hHeld => ?_)
  refine pure_ (i := 0) (N := some 24) (v := ?_) (a' := ?_) #[true, false, false, false, false, false, false, false, false, false, false, false, false] rfl rfl (by kernel_rfl) (fun _ _ _ h => h) (Or.inl ⟨by rfl, ?_⟩) ?_ ?_
  rotate_left
  · intro w'
    go_simp
    with_reducible rfl
  rotate_left
  · simp only [Act.put, List.setIfInBounds_toArray, List.set_cons_zero, List.set_cons_succ, i64_w, i32_w]
    rfl
  refine pure_ (i := 1) (N := some 25) (v := ?_) (a' := ?_) #[true, true, false, false, false, false, false, false, false, false, false, false, false] rfl rfl (by kernel_rfl) (fun _ _ _ h => h) (Or.inl ⟨by rfl, ?_⟩) ?_ ?_
  rotate_left
  · intro w'
    go_simp
    with_reducible rfl
  rotate_left
  · simp only [Act.put, List.setIfInBounds_toArray, List.set_cons_zero, List.set_cons_succ, i64_w, i32_w]
    rfl
  refine pure_ (i := 2) (N := some 26) (v := ?_) (a' := ?_) #[true, true, true, false, false, false, false, false, false, false, false, false, false] rfl rfl (by kernel_rfl) (fun _ _ _ h => h) (Or.inl ⟨by rfl, ?_⟩) ?_ ?_
  rotate_left
  · intro w'
    go_simp
    with_reducible rfl
  rotate_left
  · simp only [Act.put, List.setIfInBounds_toArray, List.set_cons_zero, List.set_cons_succ, i64_w, i32_w]
    rfl
  refine pure_ (i := 4) (N := some 28) (v := ?_) (a' := ?_) #[true, true, true, false, true, false, false, false, false, false, false, false, false] rfl rfl (by kernel_rfl) (fun _ _ _ h => h) (Or.inl ⟨by rfl, ?_⟩) ?_ ?_
  rotate_left
  · intro w'
    go_simp
    with_reducible rfl
  rotate_left
  · simp only [Act.put, List.setIfInBounds_toArray, List.set_cons_zero, List.set_cons_succ, i64_w, i32_w]
    rfl
  refine pure_ (i := 5) (N := some 29) (v := ?_) (a' := ?_) #[true, true, true, false, true, true, false, false, false, false, false, false, false] rfl rfl (by kernel_rfl) (fun _ _ _ h => h) (Or.inl ⟨by rfl, ?_⟩) ?_ ?_
  rotate_left
  · intro w'
    go_simp
    with_reducible rfl
  rotate_left
  · simp only [Act.put, List.setIfInBounds_toArray, List.set_cons_zero, List.set_cons_succ, i64_w, i32_w]
    rfl
  refine pure_ (i := 6) (N := some 30) (v := ?_) (a' := ?_) #[true, true, true, false, true, true, true, false, false, false, false, false, false] rfl rfl (by kernel_rfl) (fun _ _ _ h => h) (Or.inl ⟨by rfl, ?_⟩) ?_ ?_
  rotate_left
  · intro w'
    go_simp
    with_reducible rfl
  rotate_left
  · simp only [Act.put, List.setIfInBounds_toArray, List.set_cons_zero, List.set_cons_succ, i64_w, i32_w]
    rfl
  refine pure_ (i := 7) (N := some 31) (v := ?_) (a' := ?_) #[true, true, true, false, true, true, true, true, false, false, false, false, false] rfl rfl (by kernel_rfl) (fun _ _ _ h => h) (Or.inl ⟨by rfl, ?_⟩) ?_ ?_
  rotate_left
  · intro w'
    go_simp
    with_reducible rfl
  rotate_left
  · simp only [Act.put, List.setIfInBounds_toArray, List.set_cons_zero, List.set_cons_succ, i64_w, i32_w]
    rfl
  refine take_ (i := 3) (N := some 27) (v := ?_) (a' := ?_) #[true, true, true, true, true, true, true, true, false, false, false, false, false] rfl rfl (by kernel_rfl) (fun _ _ _ h => h) (Or.inl ⟨by rfl, ?_⟩) hHeld ?_ ?_
  rotate_left
  · rintro w' ⟨s0, s1, s2, s3⟩
    go_simp
    with_reducible rfl
  rotate_left
  · simp only [Act.put, List.setIfInBounds_toArray, List.set_cons_zero, List.set_cons_succ, i64_w, i32_w]
    rfl
  refine take_ (i := 8) (N := some 32) (v := ?_) (a' := ?_) #[true, true, true, true, true, true, true, true, true, false, false, false, false] rfl rfl (by kernel_rfl) (fun _ _ _ h => h) (Or.inl ⟨by rfl, ?_⟩) hHeld ?_ ?_
  rotate_left
  · rintro w' ⟨s0, s1, s2, s3⟩
    go_simp
    with_reducible rfl
  rotate_left
  · simp only [Act.put, List.setIfInBounds_toArray, List.set_cons_zero, List.set_cons_succ, i64_w, i32_w]
    rfl
  refine pure_ (i := 9) (N := some 33) (v := ?_) (a' := ?_) #[true, true, true, true, true, true, true, true, true, true, false, false, false] rfl rfl (by kernel_rfl) (fun _ _ _ h => h) (Or.inl ⟨by rfl, ?_⟩) ?_ ?_
  rotate_left
  · intro w'
    go_simp
    with_reducible rfl
  rotate_left
  · simp only [Act.put, List.setIfInBounds_toArray, List.set_cons_zero, List.set_cons_succ, i64_w, i32_w]
    rfl
  refine take_ (i := 10) (N := some 34) (v := ?_) (a' := ?_) #[true, true, true, true, true, true, true, true, true, true, true, false, false] rfl rfl (by kernel_rfl) (fun _ _ _ h => h) (Or.inl ⟨by rfl, ?_⟩) hHeld ?_ ?_
  rotate_left
  · rintro w' ⟨s0, s1, s2, s3⟩
    go_simp
    with_reducible rfl
  rotate_left
  · simp only [Act.put, List.setIfInBounds_toArray, List.set_cons_zero, List.set_cons_succ, i64_w, i32_w]
    rfl
  refine one_ (i := 11) (N := some 4) #[true, true, true, true, true, true, true, true, true, true, true, true, false] rfl rfl (by kernel_rfl) (by decide) (fun K hK => ?_)
  refine value_ (w1 := ?_) (v := ?_) (by rfl) rfl ?_ ?_
  rotate_left 2
  · go_simp
    constructor
    · rfl
    · rfl
  have hb3 : Below W1.heap.size W1 ((W1.drewN (nq + 1)).alloc (.cells #[.int .i64 0, .int .i64 0] 27)) := below_alloc (w := W1) (pw_below_drewN (Below.refl W1.heap.size W1) (nq + 1)) _
  have hn3 : ((W1.drewN (nq + 1)).alloc (.cells #[.int .i64 0, .int .i64 0] 27)).heap[W.heap.size + 2]? = some (.cells #[.int .i64 0, .int .i64 0] 27 (0, 0)) := by rw [← hz1]; exact heap_alloc_new (W1.drewN (nq + 1)) _
  generalize (W1.drewN (nq + 1)).alloc (.cells #[.int .i64 0, .int .i64 0] 27) = w3 at *
  have HB3 := Aside0.mk hb3
  have i0 := blk_cell hn3 0
  have i1 := blk_cell hn3 1
  have j0 := blk_frozen hn3 0
  have j1 := blk_frozen hn3 1
  have hs4 := HSE.out w3 hb3 hn3
  clear hb3 hn3
  have HS4 := Aside0.mk hs4
  clear hs4
  refine hK.out _ _ ⟨(HB3.out.cell (p := ⟨g, 0, none⟩) HGL.out).trans c0, (HB3.out.cell (p := ⟨g, 1, none⟩) HGL.out).trans c1, (HB3.out.cell (p := ⟨b, o + s.pc.toNat * 2, none⟩) HG.out).trans x0, (HB3.out.cell (p := ⟨b, o + s.pc.toNat * 2 + 1, none⟩) HG.out).trans x1⟩ (fun hHeld => ?_)
  clear hK K
  refine norm_ (a' := ?_) ?_ ?_
  rotate_left
  · show Act.put _ (some 4) _ = _
    simp only [Act.put, List.setIfInBounds_toArray, List.set_cons_zero, List.set_cons_succ, i64_w, i32_w]
    rfl
  refine last_ (i := 12) (N := none) #[true, true, true, true, true, true, true, true, true, true, true, true, true] rfl rfl (by kernel_rfl) (by decide) (fun K hK => ?_)
  refine skip_ (w1 := ?_) (by rfl) rfl ?_ ?_
  rotate_left
  · go_simp
    rfl
  refine hK.out _ _ ?_
  clear hK K
  refine done_ (by kernel_rfl) ?_

  have HS4' : Aside0 _ := HS4
  clear HS4
  generalize (w3.setCell ⟨W.heap.size + 2, 0, none⟩ (.int .i64 18)).setCell ⟨W.heap.size + 2, 1, none⟩ (.int .i64 a) = w4 at *
  have HS4 := HS4'
  clear HS4' c0 c1 x0 x1 i0 i1 j0 j1 HSE hHeld HB3
  obtain ⟨c0, c1, c2, c3, c4, g1, g3⟩ := HS4.out.cells; obtain ⟨b0, b1, b2, h0, h1, h2, l0, l1, l2, i0, i1⟩ := HS4.out.boxes
  obtain ⟨ad, rfl⟩ := h_mem.ptr
  obtain ⟨y0, y1⟩ := h_mem.range hx
  have HX := Aside0.mk hx
  clear hx h_mem
  go_wp2_with (first
    | (go_at_call 62; (with_reducible refine (has_calls _ g B s.st.length d 18 a c2 HL.out.1).mono ?_); rintro e w5 ⟨he, hb5⟩; rw [HH.out] at he; subst he; have HS5 := Aside0.mk (HS4.out.step hb5); clear hb5 c0 c1 c2 c3 c4 g1 g3 b0 b1 b2 h0 h1 h2 l0 l1 l2 i0 i1; obtain ⟨c0, c1, c2, c3, c4, g1, g3⟩ := HS5.out.cells; obtain ⟨b0, b1, b2, h0, h1, h2, l0, l1, l2, i0, i1⟩ := HS5.out.boxes))
  refine start_ (n := 14) (S := fun w' => w'.cell? ⟨g, 4, none⟩ = some (.iface 94 (.pointer (some ad)))) (ds := []) #[false, false, false, false, false, false, false, false, false, false, false, false, false, false] (by kernel_rfl) rfl rfl (c4) (fun hHeld => ?_)
  refine pure_ (i := 0) (N := some 106) (v := ?_) (a' := ?_) #[true, false, false, false, false, false, false, false, false, false, false, false, false, false] rfl rfl (by kernel_rfl) (fun _ _ _ h => h) (Or.inl ⟨by rfl, ?_⟩) ?_ ?_
  rotate_left
  · intro w'
    go_simp
    with_reducible rfl
  rotate_left
  · simp only [Act.put, List.setIfInBounds_toArray, List.set_cons_zero, List.set_cons_succ, i64_w, i32_w]
    rfl
  refine pure_ (i := 1) (N := some 107) (v := ?_) (a' := ?_) #[true, true, false, false, false, false, false, false, false, false, false, false, false, false] rfl rfl (by kernel_rfl) (fun _ _ _ h => h) (Or.inl ⟨by rfl, ?_⟩) ?_ ?_
  rotate_left
  · intro w'
    go_simp
    with_reducible rfl
  rotate_left
  · simp only [Act.put, List.setIfInBounds_toArray, List.set_cons_zero, List.set_cons_succ, i64_w, i32_w]
    rfl
  refine pure_ (i := 2) (N := some 108) (v := ?_) (a' := ?_) #[true, true, true, false, false, false, false, false, false, false, false, false, false, false] rfl rfl (by kernel_rfl) (fun _ _ _ h => h) (Or.inl ⟨by rfl, ?_⟩) ?_ ?_
  rotate_left
  · intro w'
    go_simp
    with_reducible rfl
  rotate_left
  · simp only [Act.put, List.setIfInBounds_toArray, List.set_cons_zero, List.set_cons_succ, i64_w, i32_w]
    rfl
  refine pure_ (i := 4) (N := some 110) (v := ?_) (a' := ?_) #[true, true, true, false, true, false, false, false, false, false, false, false, false, false] rfl rfl (by kernel_rfl) (fun _ _ _ h => h) (Or.inl ⟨by rfl, ?_⟩) ?_ ?_
  rotate_left
  · intro w'
    go_simp
    with_reducible rfl
  rotate_left
  · simp only [Act.put, List.setIfInBounds_toArray, List.set_cons_zero, List.set_cons_succ, i64_w, i32_w]
    rfl
  refine take_ (i := 3) (N := some 109) (v := ?_) (a' := ?_) #[true, true, true, true, true, false, false, false, false, false, false, false, false, false] rfl rfl (by kernel_rfl) (fun _ _ _ h => h) (Or.inl ⟨by rfl, ?_⟩) hHeld ?_ ?_
  rotate_left
  · intro w' s0
    go_simp
    with_reducible rfl
  rotate_left
  · simp only [Act.put, List.setIfInBounds_toArray, List.set_cons_zero, List.set_cons_succ, i64_w, i32_w]
    rfl
  refine pure_ (i := 6) (N := some 112) (v := ?_) (a' := ?_) #[true, true, true, true, true, false, true, false, false, false, false, false, false, false] rfl rfl (by kernel_rfl) (fun _ _ _ h => h) (Or.inl ⟨by rfl, ?_⟩) ?_ ?_
  rotate_left
  · intro w'
    go_simp
    with_reducible rfl
  rotate_left
  · simp only [Act.put, List.setIfInBounds_toArray, List.set_cons_zero, List.set_cons_succ, i64_w, i32_w]
    rfl
  refine pure_ (i := 7) (N := some 113) (v := ?_) (a' := ?_) #[true, true, true, true, true, false, true, true, false, false, false, false, false, false] rfl rfl (by kernel_rfl) (fun _ _ _ h => h) (Or.inl ⟨by rfl, ?_⟩) ?_ ?_
  rotate_left
  · intro w'
    go_simp
    with_reducible rfl
  rotate_left
  · simp only [Act.put, List.setIfInBounds_toArray, List.set_cons_zero, List.set_cons_succ, i64_w, i32_w]
    rfl
  refine one_ (i := 5) (N := some 111) #[true, true, true, true, true, true, true, true, false, false, false, false, false, false] rfl rfl (by kernel_rfl) (by decide) (fun K hK => ?_)
  refine goes_ Try.func64 (by kernel_rfl) rfl #[.pointer (some ⟨g, 0, none⟩), .int .i64 0] (by rfl) rfl rfl (by simp only [List.map_toArray, List.map_cons, List.map_nil]; rfl) ?_
  with_reducible refine (SE.lastc (HS5.out.step (below_drew (Below.refl _ _))) HL.out.1 0 0 rfl (by have := HT.out; omega)).mono ?_
  rintro e w6 ⟨rfl, hs6⟩
  refine ⟨_, rfl, ?_⟩
  have HS6 := Aside0.mk hs6
  clear hs6
  clear c0 c1 c2 c3 c4 g1 g3 b0 b1 b2 h0 h1 h2 l0 l1 l2 i0 i1
  obtain ⟨c0, c1, c2, c3, c4, g1, g3⟩ := HS6.out.cells; obtain ⟨b0, b1, b2, h0, h1, h2, l0, l1, l2, i0, i1⟩ := HS6.out.boxes
  refine hK.out _ _ (c4) (fun hHeld => ?_)
  clear hK K
  refine norm_ (a' := ?_) ?_ ?_
  rotate_left
  · show Act.put _ (some 111) _ = _
    simp only [Act.put, List.setIfInBounds_toArray, List.set_cons_zero, List.set_cons_succ, i64_w, i32_w]
    rfl
  refine one_ (i := 8) (N := some 114) #[true, true, true, true, true, true, true, true, true, false, false, false, false, false] rfl rfl (by kernel_rfl) (by decide) (fun K hK => ?_)
  refine goesI_ Try.func30 (by kernel_rfl) rfl (method_load _) #[.int .i64 (lastP s.st 0)] (by rfl) rfl rfl (by rfl) (by simp only [List.map_toArray, List.map_cons, List.map_nil]; rfl) #[.pointer (some ad), .int .i64 (lastP s.st 0)] (by rfl) ?_
  with_reducible refine (HS6.out.loadc HFL.out HX.out).mono ?_
  rintro e w7 ⟨f7, rfl, hs7, hf7⟩
  refine ⟨_, rfl, ?_⟩
  have HS7 := Aside0.mk hs7
  have HF7 := Aside0.mk hf7
  clear hs7 hf7
  clear c0 c1 c2 c3 c4 g1 g3 b0 b1 b2 h0 h1 h2 l0 l1 l2 i0 i1
  obtain ⟨c0, c1, c2, c3, c4, g1, g3⟩ := HS7.out.cells; obtain ⟨b0, b1, b2, h0, h1, h2, l0, l1, l2, i0, i1⟩ := HS7.out.boxes
  refine hK.out _ _ (c4) (fun hHeld => ?_)
  clear hK K
  refine norm_ (a' := ?_) ?_ ?_
  rotate_left
  · show Act.put _ (some 114) _ = _
    simp only [Act.put, List.setIfInBounds_toArray, List.set_cons_zero, List.set_cons_succ, i64_w, i32_w]
    rfl
  refine pure_ (i := 9) (N := some 105) (v := ?_) (a' := ?_) #[true, true, true, true, true, true, true, true, true, true, false, false, false, false] rfl rfl (by kernel_rfl) (fun _ _ _ h => h) (Or.inl ⟨by rfl, ?_⟩) ?_ ?_
  rotate_left
  · intro w'
    go_simp
    with_reducible rfl
  rotate_left
  · simp only [Act.put, List.setIfInBounds_toArray, List.set_cons_zero, List.set_cons_succ, i64_w, i32_w]
    rfl
  refine pure_ (i := 10) (N := some 115) (v := ?_) (a' := ?_) #[true, true, true, true, true, true, true, true, true, true, true, false, false, false] rfl rfl (by kernel_rfl) (fun _ _ _ h => h) (Or.inl ⟨by rfl, ?_⟩) ?_ ?_
  rotate_left
  · intro w'
    go_simp
    with_reducible rfl
  rotate_left
  · simp only [Act.put, List.setIfInBounds_toArray, List.set_cons_zero, List.set_cons_succ, i64_w, i32_w]
    rfl
  refine pure_ (i := 11) (N := some 116) (v := ?_) (a' := ?_) #[true, true, true, true, true, true, true, true, true, true, true, true, false, false] rfl rfl (by kernel_rfl) (fun _ _ _ h => h) (Or.inl ⟨by rfl, ?_⟩) ?_ ?_
  rotate_left
  · intro w'
    go_simp
    with_reducible rfl
  rotate_left
  · simp only [Act.put, List.setIfInBounds_toArray, List.set_cons_zero, List.set_cons_succ, i64_w, i32_w]
    rfl
  refine pure_ (i := 12) (N := some 6) (v := ?_) (a' := ?_) #[true, true, true, true, true, true, true, true, true, true, true, true, true, false] rfl rfl (by kernel_rfl) (fun _ _ _ h => h) (Or.inl ⟨by rfl, ?_⟩) ?_ ?_
  rotate_left
  · intro w'
    go_simp
    with_reducible rfl
  rotate_left
  · simp only [Act.put, List.setIfInBounds_toArray, List.set_cons_zero, List.set_cons_succ, i64_w, i32_w]
    rfl
  refine pure_ (i := 13) (N := some 7) (v := ?_) (a' := ?_) #[true, true, true, true, true, true, true, true, true, true, true, true, true, true] rfl rfl (by kernel_rfl) (fun _ _ _ h => h) (Or.inl ⟨by rfl, ?_⟩) ?_ ?_
  rotate_left
  · intro w'
    go_simp
    with_reducible rfl
  rotate_left
  · simp only [Act.put, List.setIfInBounds_toArray, List.set_cons_zero, List.set_cons_succ, i64_w, i32_w]
    rfl
  refine done_ (by kernel_rfl) ?_

  go_wp2_with (first
    | (go_at_call 63; (with_reducible refine ((HS7.out.step (below_alloc (Below.refl _ _) _)).left HF7.out 1 1 rfl (by have := HT.out; omega) HL.out.1 _ 1 1 [y] (lit_C w7 [y] (by simp) _ rfl) (by decide)).mono ?_); rintro e w8 ⟨B8, d8, rfl, hs8⟩; have HS8 := Aside0.mk hs8; clear hs8; clear c0 c1 c2 c3 c4 g1 g3 b0 b1 b2 h0 h1 h2 l0 l1 l2 i0 i1; obtain ⟨c0, c1, c2, c3, c4, g1, g3⟩ := HS8.out.cells; obtain ⟨b0, b1, b2, h0, h1, h2, l0, l1, l2, i0, i1⟩ := HS8.out.boxes))
  have HF := HS8.out.pc HF7.out (s.pc + 1)
  have hz := blk_set (blk_set (blk_set HF.res 0 (.int .i64 0)) 1 (.int .i64 0)) 2 (.int .i64 0)
  have e0 := (blk_cell hz 0).trans (show _ = some (Value.int .i64 0) from rfl)
  have e1 := (blk_cell hz 1).trans (show _ = some (Value.int .i64 0) from rfl)
  have e2 := (blk_cell hz 2).trans (show _ = some (Value.int .i64 0) from rfl)
  exact bodyPost_ret (v := .agg #[.int .i64 0, .int .i64 0, .int .i64 0]) (by simp [results, Try.results54, go_sem, e0, e1, e2]) rfl (HF.told 0 0 0 HF7.out HR.out rfl)
end Go.Proofs.Ytkjdhhdkfbkgpaa.VmW
