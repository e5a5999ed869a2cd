/- The machine's step: if, trap, halt, call. -/
import Derived.Test.YtkjdhhdkfbkgpaaVmMA
namespace Go.Proofs.Ytkjdhhdkfbkgpaa.VmW
open Go.RowKit Go.Proofs.YtkjdhhdkfbkgpaaW.PrintWords Go.Proofs.YtkjdhhdkfbkgpaaW.PrintMore Go.Proofs.YtkjdhhdkfbkgpaaW.PrintLast Go.Proofs.Ytkjdhhdkfbkgpaa.Pvm
set_option linter.unusedVariables false
set_option linter.unusedSimpArgs false
set_option maxHeartbeats 8000000 in
set_option maxRecDepth 100000 in
theorem step_ifno (W : World) (base g : Nat) (Ac : Option Addr) (cc : Nat) (code : List In) (p : Value) (f : Nat → Prop) (v1 v2 : Value) (s : St) (m : Mem) (h : Mach W base g Ac cc code p f v1 v2 s m) (hbase : base ≤ W.heap.size) (hs : mayP s code.length) (hlt : s.pc < (code.length : Int)) (hlen : code.length ≤ 1024) (a : Int) (hx : lastP s.st 0 = 0) (hop : inAt code s.pc = ⟨21, a⟩) (hh : hasP 21 a s.st.length = true) : Calls Try.prog 54 #[.pointer (some ⟨g, 0, none⟩)] W (StepPost W base g Ac cc code p f v1 v2 (stepP memK code s m)) := by
  have HH := Aside0.mk hh
  have HT := Aside0.mk (show 1 ≤ s.st.length from by unfold hasP at hh; simp at hh; omega)
  have HR := Aside0.mk (show stepP memK code s m = (⟨s.pc + 1, cutP s.st 1 ++ [], s.ca⟩, m, 0, 0) from by unfold stepP; rw [if_neg (by omega), hop, if_neg (by rw [hh]; simp)]; simp [opP, cutP_zero, *])
  clear hh
  obtain ⟨hp0, hp1, hl, hcl, _⟩ := hs
  have hfl := h.mem.lt
  obtain ⟨B, d, rfl⟩ : ∃ B d, v1 = .slice B s.st.length d := own_slice h.stk
  obtain ⟨E, c, rfl⟩ : ∃ E c, v2 = .slice E s.ca.length c := own_slice h.cal
  have HFL := Aside0.mk (show ∀ k, f k → k < W.heap.size ∨ W.heap.size + 3 ≤ k from fun k hk => .inl (hfl k hk))

  obtain ⟨b, o, rfl, hbw, hcell⟩ := code_at h.cde (by omega)
  obtain ⟨x0, x1⟩ := hcell s.pc.toNat (by omega)
  rw [Int.toNat_of_nonneg hp0, hop] at x0 x1
  generalize hW : ((W.alloc (.cells #[.int .i64 0, .int .i64 0, .int .i64 0] 53)).alloc (.cells #[.int .i64 4, .int .i64 0, .int .i64 0] 53)) = W1 at *
  have hb1 := below_alloc (below_alloc (Below.refl W.heap.size W) (.cells #[.int .i64 0, .int .i64 0, .int .i64 0] 53)) (.cells #[.int .i64 4, .int .i64 0, .int .i64 0] 53)
  rw [hW] at hb1
  have hz1 : W1.heap.size = W.heap.size + 2 := by rw [← hW]; simp
  have y0 : W1.heap[W.heap.size]? = some (.cells #[.int .i64 0, .int .i64 0, .int .i64 0] 53 (0, 0)) := by
    rw [← hW]; exact (heap_alloc_old _ _ (by simp)).trans (heap_alloc_new W _)
  have y1 : W1.heap[W.heap.size + 1]? = some (.cells #[.int .i64 4, .int .i64 0, .int .i64 0] 53 (0, 0)) := by
    rw [← hW]
    have := heap_alloc_new (W.alloc (.cells #[.int .i64 0, .int .i64 0, .int .i64 0] 53)) (.cells #[.int .i64 4, .int .i64 0, .int .i64 0] 53)
    simpa using this
  have hm1 := h.step hb1
  have c0 : W1.cell? ⟨g, 0, none⟩ = some (.slice (some ⟨b, o, none⟩) code.length cc) := blk_cell hm1.box 0
  have c1 : W1.cell? ⟨g, 1, none⟩ = some (.int .i64 s.pc) := blk_cell hm1.box 1
  replace x0 := (hb1.cell (p := ⟨b, o + s.pc.toNat * 2, none⟩) hbw).trans x0
  replace x1 := (hb1.cell (p := ⟨b, o + s.pc.toNat * 2 + 1, none⟩) hbw).trans x1
  have t0 : (s.pc == (code.length : Int)) = false := by simp; omega
  have e1 : wrap64 (s.pc + 1) = s.pc + 1 := by unfold wrap64; omega
  have n0 : (W.heap.size = g) = False := eq_false (by have := h.gl; omega)
  have n1 : (g = W.heap.size) = False := eq_false (by have := h.gl; omega)
  have n2 : (W.heap.size + 2 = g) = False := eq_false (by have := h.gl; omega)
  have n3 : (g = W.heap.size + 2) = False := eq_false (by have := h.gl; omega)
  have HSE := Aside0.mk (fun (w3 : World) (hb : Below W1.heap.size W1 w3) hn => SE.init h hbase hb1 hz1 y0 y1 hb (w3 := w3) hn 21 a)
  have HW := Aside0.mk hW
  have HM1 := Aside0.mk hm1
  have HZ := Aside0.mk hz1
  have HG := Aside0.mk (show b < W1.heap.size from Nat.lt_of_lt_of_le hbw hb1.size)
  have HGL := Aside0.mk hm1.gl
  have k0 : (0 : Int) ≤ s.pc := hp0
  have k1 : s.pc < (code.length : Int) := hlt
  have HL := Aside0.mk (And.intro hl hcl)
  have h_cal := h.cal
  have h_mem := h.mem
  clear h hbase hfl hcell hW hb1 y0 y1 hm1 hp0 hp1 hlt hl hcl
  go_enter Try.func54, Try.ntmps54
  go_wp2
  rw [HW.out]
  go_quiet (fail)
  go_wp2
  refine start_ (n := 13) (S := fun w' => w'.cell? ⟨g, 0, none⟩ = some (.slice (some ⟨b, o, none⟩) code.length cc) ∧ w'.cell? ⟨g, 1, none⟩ = some (.int .i64 s.pc) ∧ w'.cell? ⟨b, o + s.pc.toNat * 2, none⟩ = some (.int .i64 21) ∧ w'.cell? ⟨b, o + s.pc.toNat * 2 + 1, none⟩ = some (.int .i64 a)) (ds := [12]) #[false, false, false, false, false, false, false, false, false, false, false, false, false] (by kernel_rfl) rfl rfl ⟨c0, c1, x0, x1⟩ (fun hHeld => ?_)
  refine pure_ (i := 0) (N := some 24) (v := ?_) (a' := ?_) #[true, false, false, false, false, false, false, false, false, false, false, false, false] rfl rfl (by kernel_rfl) (fun _ _ _ h => h) (Or.inl ⟨by rfl, ?_⟩) ?_ ?_
  rotate_left
  · intro w'
    go_simp
    with_reducible rfl
  rotate_left
  · simp only [Act.put, List.setIfInBounds_toArray, List.set_cons_zero, List.set_cons_succ, i64_w, i32_w]
    rfl
  refine pure_ (i := 1) (N := some 25) (v := ?_) (a' := ?_) #[true, true, false, false, false, false, false, false, false, false, false, false, false] rfl rfl (by kernel_rfl) (fun _ _ _ h => h) (Or.inl ⟨by rfl, ?_⟩) ?_ ?_
  rotate_left
  · intro w'
    go_simp
    with_reducible rfl
  rotate_left
  · simp only [Act.put, List.setIfInBounds_toArray, List.set_cons_zero, List.set_cons_succ, i64_w, i32_w]
    rfl
  refine pure_ (i := 2) (N := some 26) (v := ?_) (a' := ?_) #[true, true, true, false, false, false, false, false, false, false, false, false, false] rfl rfl (by kernel_rfl) (fun _ _ _ h => h) (Or.inl ⟨by rfl, ?_⟩) ?_ ?_
  rotate_left
  · intro w'
    go_simp
    with_reducible rfl
  rotate_left
  · simp only [Act.put, List.setIfInBounds_toArray, List.set_cons_zero, List.set_cons_succ, i64_w, i32_w]
    rfl
  refine pure_ (i := 4) (N := some 28) (v := ?_) (a' := ?_) #[true, true, true, false, true, false, false, false, false, false, false, false, false] rfl rfl (by kernel_rfl) (fun _ _ _ h => h) (Or.inl ⟨by rfl, ?_⟩) ?_ ?_
  rotate_left
  · intro w'
    go_simp
    with_reducible rfl
  rotate_left
  · simp only [Act.put, List.setIfInBounds_toArray, List.set_cons_zero, List.set_cons_succ, i64_w, i32_w]
    rfl
  refine pure_ (i := 5) (N := some 29) (v := ?_) (a' := ?_) #[true, true, true, false, true, true, false, false, false, false, false, false, false] rfl rfl (by kernel_rfl) (fun _ _ _ h => h) (Or.inl ⟨by rfl, ?_⟩) ?_ ?_
  rotate_left
  · intro w'
    go_simp
    with_reducible rfl
  rotate_left
  · simp only [Act.put, List.setIfInBounds_toArray, List.set_cons_zero, List.set_cons_succ, i64_w, i32_w]
    rfl
  refine pure_ (i := 6) (N := some 30) (v := ?_) (a' := ?_) #[true, true, true, false, true, true, true, false, false, false, false, false, false] rfl rfl (by kernel_rfl) (fun _ _ _ h => h) (Or.inl ⟨by rfl, ?_⟩) ?_ ?_
  rotate_left
  · intro w'
    go_simp
    with_reducible rfl
  rotate_left
  · simp only [Act.put, List.setIfInBounds_toArray, List.set_cons_zero, List.set_cons_succ, i64_w, i32_w]
    rfl
  refine pure_ (i := 7) (N := some 31) (v := ?_) (a' := ?_) #[true, true, true, false, true, true, true, true, false, false, false, false, false] rfl rfl (by kernel_rfl) (fun _ _ _ h => h) (Or.inl ⟨by rfl, ?_⟩) ?_ ?_
  rotate_left
  · intro w'
    go_simp
    with_reducible rfl
  rotate_left
  · simp only [Act.put, List.setIfInBounds_toArray, List.set_cons_zero, List.set_cons_succ, i64_w, i32_w]
    rfl
  refine take_ (i := 3) (N := some 27) (v := ?_) (a' := ?_) #[true, true, true, true, true, true, true, true, false, false, false, false, false] rfl rfl (by kernel_rfl) (fun _ _ _ h => h) (Or.inl ⟨by rfl, ?_⟩) hHeld ?_ ?_
  rotate_left
  · rintro w' ⟨s0, s1, s2, s3⟩
    go_simp
    with_reducible rfl
  rotate_left
  · simp only [Act.put, List.setIfInBounds_toArray, List.set_cons_zero, List.set_cons_succ, i64_w, i32_w]
    rfl
  refine take_ (i := 8) (N := some 32) (v := ?_) (a' := ?_) #[true, true, true, true, true, true, true, true, true, false, false, false, false] rfl rfl (by kernel_rfl) (fun _ _ _ h => h) (Or.inl ⟨by rfl, ?_⟩) hHeld ?_ ?_
  rotate_left
  · rintro w' ⟨s0, s1, s2, s3⟩
    go_simp
    with_reducible rfl
  rotate_left
  · simp only [Act.put, List.setIfInBounds_toArray, List.set_cons_zero, List.set_cons_succ, i64_w, i32_w]
    rfl
  refine pure_ (i := 9) (N := some 33) (v := ?_) (a' := ?_) #[true, true, true, true, true, true, true, true, true, true, false, false, false] rfl rfl (by kernel_rfl) (fun _ _ _ h => h) (Or.inl ⟨by rfl, ?_⟩) ?_ ?_
  rotate_left
  · intro w'
    go_simp
    with_reducible rfl
  rotate_left
  · simp only [Act.put, List.setIfInBounds_toArray, List.set_cons_zero, List.set_cons_succ, i64_w, i32_w]
    rfl
  refine take_ (i := 10) (N := some 34) (v := ?_) (a' := ?_) #[true, true, true, true, true, true, true, true, true, true, true, false, false] rfl rfl (by kernel_rfl) (fun _ _ _ h => h) (Or.inl ⟨by rfl, ?_⟩) hHeld ?_ ?_
  rotate_left
  · rintro w' ⟨s0, s1, s2, s3⟩
    go_simp
    with_reducible rfl
  rotate_left
  · simp only [Act.put, List.setIfInBounds_toArray, List.set_cons_zero, List.set_cons_succ, i64_w, i32_w]
    rfl
  refine one_ (i := 11) (N := some 4) #[true, true, true, true, true, true, true, true, true, true, true, true, false] rfl rfl (by kernel_rfl) (by decide) (fun K hK => ?_)
  refine value_ (w1 := ?_) (v := ?_) (by rfl) rfl ?_ ?_
  rotate_left 2
  · go_simp
    constructor
    · rfl
    · rfl
  have hb3 : Below W1.heap.size W1 ((W1.drewN (nq + 1)).alloc (.cells #[.int .i64 0, .int .i64 0] 27)) := below_alloc (w := W1) (pw_below_drewN (Below.refl W1.heap.size W1) (nq + 1)) _
  have hn3 : ((W1.drewN (nq + 1)).alloc (.cells #[.int .i64 0, .int .i64 0] 27)).heap[W.heap.size + 2]? = some (.cells #[.int .i64 0, .int .i64 0] 27 (0, 0)) := by rw [← hz1]; exact heap_alloc_new (W1.drewN (nq + 1)) _
  generalize (W1.drewN (nq + 1)).alloc (.cells #[.int .i64 0, .int .i64 0] 27) = w3 at *
  have HB3 := Aside0.mk hb3
  have i0 := blk_cell hn3 0
  have i1 := blk_cell hn3 1
  have j0 := blk_frozen hn3 0
  have j1 := blk_frozen hn3 1
  have hs4 := HSE.out w3 hb3 hn3
  clear hb3 hn3
  have HS4 := Aside0.mk hs4
  clear hs4
  refine hK.out _ _ ⟨(HB3.out.cell (p := ⟨g, 0, none⟩) HGL.out).trans c0, (HB3.out.cell (p := ⟨g, 1, none⟩) HGL.out).trans c1, (HB3.out.cell (p := ⟨b, o + s.pc.toNat * 2, none⟩) HG.out).trans x0, (HB3.out.cell (p := ⟨b, o + s.pc.toNat * 2 + 1, none⟩) HG.out).trans x1⟩ (fun hHeld => ?_)
  clear hK K
  refine norm_ (a' := ?_) ?_ ?_
  rotate_left
  · show Act.put _ (some 4) _ = _
    simp only [Act.put, List.setIfInBounds_toArray, List.set_cons_zero, List.set_cons_succ, i64_w, i32_w]
    rfl
  refine last_ (i := 12) (N := none) #[true, true, true, true, true, true, true, true, true, true, true, true, true] rfl rfl (by kernel_rfl) (by decide) (fun K hK => ?_)
  refine skip_ (w1 := ?_) (by rfl) rfl ?_ ?_
  rotate_left
  · go_simp
    rfl
  refine hK.out _ _ ?_
  clear hK K
  refine done_ (by kernel_rfl) ?_

  have HS4' : Aside0 _ := HS4
  clear HS4
  generalize (w3.setCell ⟨W.heap.size + 2, 0, none⟩ (.int .i64 21)).setCell ⟨W.heap.size + 2, 1, none⟩ (.int .i64 a) = w4 at *
  have HS4 := HS4'
  clear HS4' c0 c1 x0 x1 i0 i1 j0 j1 HSE hHeld HB3
  obtain ⟨c0, c1, c2, c3, c4, g1, g3⟩ := HS4.out.cells; obtain ⟨b0, b1, b2, h0, h1, h2, l0, l1, l2, i0, i1⟩ := HS4.out.boxes
  have tx : (lastP s.st 0 != 0) = false := by simp [hx]
  clear hx
  go_wp2_with (first
    | (go_at_call 62; (with_reducible refine (has_calls _ g B s.st.length d 21 a c2 HL.out.1).mono ?_); rintro e w5 ⟨he, hb5⟩; rw [HH.out] at he; subst he; have HS5 := Aside0.mk (HS4.out.step hb5); clear hb5 c0 c1 c2 c3 c4 g1 g3 b0 b1 b2 h0 h1 h2 l0 l1 l2 i0 i1; obtain ⟨c0, c1, c2, c3, c4, g1, g3⟩ := HS5.out.cells; obtain ⟨b0, b1, b2, h0, h1, h2, l0, l1, l2, i0, i1⟩ := HS5.out.boxes)
    | (go_at_call 64; (with_reducible refine (HS5.out.lastc HL.out.1 (0) 0 rfl (by have := HT.out; omega)).mono ?_); rintro e w6 ⟨rfl, hs6⟩; have HS6 := Aside0.mk hs6; clear hs6; clear c0 c1 c2 c3 c4 g1 g3 b0 b1 b2 h0 h1 h2 l0 l1 l2 i0 i1; obtain ⟨c0, c1, c2, c3, c4, g1, g3⟩ := HS6.out.cells; obtain ⟨b0, b1, b2, h0, h1, h2, l0, l1, l2, i0, i1⟩ := HS6.out.boxes)
    | (go_at_call 63; (with_reducible refine (HS6.out.left HFL.out 1 1 rfl (by have := HT.out; omega) HL.out.1 none 0 0 [] (Kd.C_nil _ _) (by decide)).mono ?_); rintro e w7 ⟨B7, d7, rfl, hs7⟩; have HS7 := Aside0.mk hs7; clear hs7; clear c0 c1 c2 c3 c4 g1 g3 b0 b1 b2 h0 h1 h2 l0 l1 l2 i0 i1; obtain ⟨c0, c1, c2, c3, c4, g1, g3⟩ := HS7.out.cells; obtain ⟨b0, b1, b2, h0, h1, h2, l0, l1, l2, i0, i1⟩ := HS7.out.boxes))
  have HF := HS7.out.pc HFL.out (s.pc + 1)
  have hz := blk_set (blk_set (blk_set HF.res 0 (.int .i64 0)) 1 (.int .i64 0)) 2 (.int .i64 0)
  have e0 := (blk_cell hz 0).trans (show _ = some (Value.int .i64 0) from rfl)
  have e1 := (blk_cell hz 1).trans (show _ = some (Value.int .i64 0) from rfl)
  have e2 := (blk_cell hz 2).trans (show _ = some (Value.int .i64 0) from rfl)
  exact bodyPost_ret (v := .agg #[.int .i64 0, .int .i64 0, .int .i64 0]) (by simp [results, Try.results54, go_sem, e0, e1, e2]) rfl (HF.told 0 0 0 HFL.out HR.out rfl)
set_option maxHeartbeats 8000000 in
set_option maxRecDepth 100000 in
theorem step_ifyes (W : World) (base g : Nat) (Ac : Option Addr) (cc : Nat) (code : List In) (p : Value) (f : Nat → Prop) (v1 v2 : Value) (s : St) (m : Mem) (h : Mach W base g Ac cc code p f v1 v2 s m) (hbase : base ≤ W.heap.size) (hs : mayP s code.length) (hlt : s.pc < (code.length : Int)) (hlen : code.length ≤ 1024) (a : Int) (hx : ¬ lastP s.st 0 = 0) (hop : inAt code s.pc = ⟨21, a⟩) (hh : hasP 21 a s.st.length = true) : Calls Try.prog 54 #[.pointer (some ⟨g, 0, none⟩)] W (StepPost W base g Ac cc code p f v1 v2 (stepP memK code s m)) := by
  have HH := Aside0.mk hh
  have HT := Aside0.mk (show 1 ≤ s.st.length from by unfold hasP at hh; simp at hh; omega)
  have HR := Aside0.mk (show stepP memK code s m = (⟨a, cutP s.st 1 ++ [], s.ca⟩, m, 0, 0) from by unfold stepP; rw [if_neg (by omega), hop, if_neg (by rw [hh]; simp)]; simp [opP, cutP_zero, *])
  clear hh
  obtain ⟨hp0, hp1, hl, hcl, _⟩ := hs
  have hfl := h.mem.lt
  obtain ⟨B, d, rfl⟩ : ∃ B d, v1 = .slice B s.st.length d := own_slice h.stk
  obtain ⟨E, c, rfl⟩ : ∃ E c, v2 = .slice E s.ca.length c := own_slice h.cal
  have HFL := Aside0.mk (show ∀ k, f k → k < W.heap.size ∨ W.heap.size + 3 ≤ k from fun k hk => .inl (hfl k hk))

  obtain ⟨b, o, rfl, hbw, hcell⟩ := code_at h.cde (by omega)
  obtain ⟨x0, x1⟩ := hcell s.pc.toNat (by omega)
  rw [Int.toNat_of_nonneg hp0, hop] at x0 x1
  generalize hW : ((W.alloc (.cells #[.int .i64 0, .int .i64 0, .int .i64 0] 53)).alloc (.cells #[.int .i64 4, .int .i64 0, .int .i64 0] 53)) = W1 at *
  have hb1 := below_alloc (below_alloc (Below.refl W.heap.size W) (.cells #[.int .i64 0, .int .i64 0, .int .i64 0] 53)) (.cells #[.int .i64 4, .int .i64 0, .int .i64 0] 53)
  rw [hW] at hb1
  have hz1 : W1.heap.size = W.heap.size + 2 := by rw [← hW]; simp
  have y0 : W1.heap[W.heap.size]? = some (.cells #[.int .i64 0, .int .i64 0, .int .i64 0] 53 (0, 0)) := by
    rw [← hW]; exact (heap_alloc_old _ _ (by simp)).trans (heap_alloc_new W _)
  have y1 : W1.heap[W.heap.size + 1]? = some (.cells #[.int .i64 4, .int .i64 0, .int .i64 0] 53 (0, 0)) := by
    rw [← hW]
    have := heap_alloc_new (W.alloc (.cells #[.int .i64 0, .int .i64 0, .int .i64 0] 53)) (.cells #[.int .i64 4, .int .i64 0, .int .i64 0] 53)
    simpa using this
  have hm1 := h.step hb1
  have c0 : W1.cell? ⟨g, 0, none⟩ = some (.slice (some ⟨b, o, none⟩) code.length cc) := blk_cell hm1.box 0
  have c1 : W1.cell? ⟨g, 1, none⟩ = some (.int .i64 s.pc) := blk_cell hm1.box 1
  replace x0 := (hb1.cell (p := ⟨b, o + s.pc.toNat * 2, none⟩) hbw).trans x0
  replace x1 := (hb1.cell (p := ⟨b, o + s.pc.toNat * 2 + 1, none⟩) hbw).trans x1
  have t0 : (s.pc == (code.length : Int)) = false := by simp; omega
  have e1 : wrap64 (s.pc + 1) = s.pc + 1 := by unfold wrap64; omega
  have n0 : (W.heap.size = g) = False := eq_false (by have := h.gl; omega)
  have n1 : (g = W.heap.size) = False := eq_false (by have := h.gl; omega)
  have n2 : (W.heap.size + 2 = g) = False := eq_false (by have := h.gl; omega)
  have n3 : (g = W.heap.size + 2) = False := eq_false (by have := h.gl; omega)
  have HSE := Aside0.mk (fun (w3 : World) (hb : Below W1.heap.size W1 w3) hn => SE.init h hbase hb1 hz1 y0 y1 hb (w3 := w3) hn 21 a)
  have HW := Aside0.mk hW
  have HM1 := Aside0.mk hm1
  have HZ := Aside0.mk hz1
  have HG := Aside0.mk (show b < W1.heap.size from Nat.lt_of_lt_of_le hbw hb1.size)
  have HGL := Aside0.mk hm1.gl
  have k0 : (0 : Int) ≤ s.pc := hp0
  have k1 : s.pc < (code.length : Int) := hlt
  have HL := Aside0.mk (And.intro hl hcl)
  have h_cal := h.cal
  have h_mem := h.mem
  clear h hbase hfl hcell hW hb1 y0 y1 hm1 hp0 hp1 hlt hl hcl
  go_enter Try.func54, Try.ntmps54
  go_wp2
  rw [HW.out]
  go_quiet (fail)
  go_wp2
  refine start_ (n := 13) (S := fun w' => w'.cell? ⟨g, 0, none⟩ = some (.slice (some ⟨b, o, none⟩) code.length cc) ∧ w'.cell? ⟨g, 1, none⟩ = some (.int .i64 s.pc) ∧ w'.cell? ⟨b, o + s.pc.toNat * 2, none⟩ = some (.int .i64 21) ∧ w'.cell? ⟨b, o + s.pc.toNat * 2 + 1, none⟩ = some (.int .i64 a)) (ds := [12]) #[false, false, false, false, false, false, false, false, false, false, false, false, false] (by kernel_rfl) rfl rfl ⟨c0, c1, x0, x1⟩ (fun hHeld => ?_)
  refine pure_ (i := 0) (N := some 24) (v := ?_) (a' := ?_) #[true, false, false, false, false, false, false, false, false, false, false, false, false] rfl rfl (by kernel_rfl) (fun _ _ _ h => h) (Or.inl ⟨by rfl, ?_⟩) ?_ ?_
  rotate_left
  · intro w'
    go_simp
    with_reducible rfl
  rotate_left
  · simp only [Act.put, List.setIfInBounds_toArray, List.set_cons_zero, List.set_cons_succ, i64_w, i32_w]
    rfl
  refine pure_ (i := 1) (N := some 25) (v := ?_) (a' := ?_) #[true, true, false, false, false, false, false, false, false, false, false, false, false] rfl rfl (by kernel_rfl) (fun _ _ _ h => h) (Or.inl ⟨by rfl, ?_⟩) ?_ ?_
  rotate_left
  · intro w'
    go_simp
    with_reducible rfl
  rotate_left
  · simp only [Act.put, List.setIfInBounds_toArray, List.set_cons_zero, List.set_cons_succ, i64_w, i32_w]
    rfl
  refine pure_ (i := 2) (N := some 26) (v := ?_) (a' := ?_) #[true, true, true, false, false, false, false, false, false, false, false, false, false] rfl rfl (by kernel_rfl) (fun _ _ _ h => h) (Or.inl ⟨by rfl, ?_⟩) ?_ ?_
  rotate_left
  · intro w'
    go_simp
    with_reducible rfl
  rotate_left
  · simp only [Act.put, List.setIfInBounds_toArray, List.set_cons_zero, List.set_cons_succ, i64_w, i32_w]
    rfl
  refine pure_ (i := 4) (N := some 28) (v := ?_) (a' := ?_) #[true, true, true, false, true, false, false, false, false, false, false, false, false] rfl rfl (by kernel_rfl) (fun _ _ _ h => h) (Or.inl ⟨by rfl, ?_⟩) ?_ ?_
  rotate_left
  · intro w'
    go_simp
    with_reducible rfl
  rotate_left
  · simp only [Act.put, List.setIfInBounds_toArray, List.set_cons_zero, List.set_cons_succ, i64_w, i32_w]
    rfl
  refine pure_ (i := 5) (N := some 29) (v := ?_) (a' := ?_) #[true, true, true, false, true, true, false, false, false, false, false, false, false] rfl rfl (by kernel_rfl) (fun _ _ _ h => h) (Or.inl ⟨by rfl, ?_⟩) ?_ ?_
  rotate_left
  · intro w'
    go_simp
    with_reducible rfl
  rotate_left
  · simp only [Act.put, List.setIfInBounds_toArray, List.set_cons_zero, List.set_cons_succ, i64_w, i32_w]
    rfl
  refine pure_ (i := 6) (N := some 30) (v := ?_) (a' := ?_) #[true, true, true, false, true, true, true, false, false, false, false, false, false] rfl rfl (by kernel_rfl) (fun _ _ _ h => h) (Or.inl ⟨by rfl, ?_⟩) ?_ ?_
  rotate_left
  · intro w'
    go_simp
    with_reducible rfl
  rotate_left
  · simp only [Act.put, List.setIfInBounds_toArray, List.set_cons_zero, List.set_cons_succ, i64_w, i32_w]
    rfl
  refine pure_ (i := 7) (N := some 31) (v := ?_) (a' := ?_) #[true, true, true, false, true, true, true, true, false, false, false, false, false] rfl rfl (by kernel_rfl) (fun _ _ _ h => h) (Or.inl ⟨by rfl, ?_⟩) ?_ ?_
  rotate_left
  · intro w'
    go_simp
    with_reducible rfl
  rotate_left
  · simp only [Act.put, List.setIfInBounds_toArray, List.set_cons_zero, List.set_cons_succ, i64_w, i32_w]
    rfl
  refine take_ (i := 3) (N := some 27) (v := ?_) (a' := ?_) #[true, true, true, true, true, true, true, true, false, false, false, false, false] rfl rfl (by kernel_rfl) (fun _ _ _ h => h) (Or.inl ⟨by rfl, ?_⟩) hHeld ?_ ?_
  rotate_left
  · rintro w' ⟨s0, s1, s2, s3⟩
    go_simp
    with_reducible rfl
  rotate_left
  · simp only [Act.put, List.setIfInBounds_toArray, List.set_cons_zero, List.set_cons_succ, i64_w, i32_w]
    rfl
  refine take_ (i := 8) (N := some 32) (v := ?_) (a' := ?_) #[true, true, true, true, true, true, true, true, true, false, false, false, false] rfl rfl (by kernel_rfl) (fun _ _ _ h => h) (Or.inl ⟨by rfl, ?_⟩) hHeld ?_ ?_
  rotate_left
  · rintro w' ⟨s0, s1, s2, s3⟩
    go_simp
    with_reducible rfl
  rotate_left
  · simp only [Act.put, List.setIfInBounds_toArray, List.set_cons_zero, List.set_cons_succ, i64_w, i32_w]
    rfl
  refine pure_ (i := 9) (N := some 33) (v := ?_) (a' := ?_) #[true, true, true, true, true, true, true, true, true, true, false, false, false] rfl rfl (by kernel_rfl) (fun _ _ _ h => h) (Or.inl ⟨by rfl, ?_⟩) ?_ ?_
  rotate_left
  · intro w'
    go_simp
    with_reducible rfl
  rotate_left
  · simp only [Act.put, List.setIfInBounds_toArray, List.set_cons_zero, List.set_cons_succ, i64_w, i32_w]
    rfl
  refine take_ (i := 10) (N := some 34) (v := ?_) (a' := ?_) #[true, true, true, true, true, true, true, true, true, true, true, false, false] rfl rfl (by kernel_rfl) (fun _ _ _ h => h) (Or.inl ⟨by rfl, ?_⟩) hHeld ?_ ?_
  rotate_left
  · rintro w' ⟨s0, s1, s2, s3⟩
    go_simp
    with_reducible rfl
  rotate_left
  · simp only [Act.put, List.setIfInBounds_toArray, List.set_cons_zero, List.set_cons_succ, i64_w, i32_w]
    rfl
  refine one_ (i := 11) (N := some 4) #[true, true, true, true, true, true, true, true, true, true, true, true, false] rfl rfl (by kernel_rfl) (by decide) (fun K hK => ?_)
  refine value_ (w1 := ?_) (v := ?_) (by rfl) rfl ?_ ?_
  rotate_left 2
  · go_simp
    constructor
    · rfl
    · rfl
  have hb3 : Below W1.heap.size W1 ((W1.drewN (nq + 1)).alloc (.cells #[.int .i64 0, .int .i64 0] 27)) := below_alloc (w := W1) (pw_below_drewN (Below.refl W1.heap.size W1) (nq + 1)) _
  have hn3 : ((W1.drewN (nq + 1)).alloc (.cells #[.int .i64 0, .int .i64 0] 27)).heap[W.heap.size + 2]? = some (.cells #[.int .i64 0, .int .i64 0] 27 (0, 0)) := by rw [← hz1]; exact heap_alloc_new (W1.drewN (nq + 1)) _
  generalize (W1.drewN (nq + 1)).alloc (.cells #[.int .i64 0, .int .i64 0] 27) = w3 at *
  have HB3 := Aside0.mk hb3
  have i0 := blk_cell hn3 0
  have i1 := blk_cell hn3 1
  have j0 := blk_frozen hn3 0
  have j1 := blk_frozen hn3 1
  have hs4 := HSE.out w3 hb3 hn3
  clear hb3 hn3
  have HS4 := Aside0.mk hs4
  clear hs4
  refine hK.out _ _ ⟨(HB3.out.cell (p := ⟨g, 0, none⟩) HGL.out).trans c0, (HB3.out.cell (p := ⟨g, 1, none⟩) HGL.out).trans c1, (HB3.out.cell (p := ⟨b, o + s.pc.toNat * 2, none⟩) HG.out).trans x0, (HB3.out.cell (p := ⟨b, o + s.pc.toNat * 2 + 1, none⟩) HG.out).trans x1⟩ (fun hHeld => ?_)
  clear hK K
  refine norm_ (a' := ?_) ?_ ?_
  rotate_left
  · show Act.put _ (some 4) _ = _
    simp only [Act.put, List.setIfInBounds_toArray, List.set_cons_zero, List.set_cons_succ, i64_w, i32_w]
    rfl
  refine last_ (i := 12) (N := none) #[true, true, true, true, true, true, true, true, true, true, true, true, true] rfl rfl (by kernel_rfl) (by decide) (fun K hK => ?_)
  refine skip_ (w1 := ?_) (by rfl) rfl ?_ ?_
  rotate_left
  · go_simp
    rfl
  refine hK.out _ _ ?_
  clear hK K
  refine done_ (by kernel_rfl) ?_

  have HS4' : Aside0 _ := HS4
  clear HS4
  generalize (w3.setCell ⟨W.heap.size + 2, 0, none⟩ (.int .i64 21)).setCell ⟨W.heap.size + 2, 1, none⟩ (.int .i64 a) = w4 at *
  have HS4 := HS4'
  clear HS4' c0 c1 x0 x1 i0 i1 j0 j1 HSE hHeld HB3
  obtain ⟨c0, c1, c2, c3, c4, g1, g3⟩ := HS4.out.cells; obtain ⟨b0, b1, b2, h0, h1, h2, l0, l1, l2, i0, i1⟩ := HS4.out.boxes
  have tx : (lastP s.st 0 != 0) = true := by simp [hx]
  clear hx
  go_wp2_with (first
    | (go_at_call 62; (with_reducible refine (has_calls _ g B s.st.length d 21 a c2 HL.out.1).mono ?_); rintro e w5 ⟨he, hb5⟩; rw [HH.out] at he; subst he; have HS5 := Aside0.mk (HS4.out.step hb5); clear hb5 c0 c1 c2 c3 c4 g1 g3 b0 b1 b2 h0 h1 h2 l0 l1 l2 i0 i1; obtain ⟨c0, c1, c2, c3, c4, g1, g3⟩ := HS5.out.cells; obtain ⟨b0, b1, b2, h0, h1, h2, l0, l1, l2, i0, i1⟩ := HS5.out.boxes)
    | (go_at_call 64; (with_reducible refine (HS5.out.lastc HL.out.1 (0) 0 rfl (by have := HT.out; omega)).mono ?_); rintro e w6 ⟨rfl, hs6⟩; have HS6 := Aside0.mk hs6; clear hs6; clear c0 c1 c2 c3 c4 g1 g3 b0 b1 b2 h0 h1 h2 l0 l1 l2 i0 i1; obtain ⟨c0, c1, c2, c3, c4, g1, g3⟩ := HS6.out.cells; obtain ⟨b0, b1, b2, h0, h1, h2, l0, l1, l2, i0, i1⟩ := HS6.out.boxes)
    | (go_at_call 63; (with_reducible refine (HS6.out.left HFL.out 1 1 rfl (by have := HT.out; omega) HL.out.1 none 0 0 [] (Kd.C_nil _ _) (by decide)).mono ?_); rintro e w7 ⟨B7, d7, rfl, hs7⟩; have HS7 := Aside0.mk hs7; clear hs7; clear c0 c1 c2 c3 c4 g1 g3 b0 b1 b2 h0 h1 h2 l0 l1 l2 i0 i1; obtain ⟨c0, c1, c2, c3, c4, g1, g3⟩ := HS7.out.cells; obtain ⟨b0, b1, b2, h0, h1, h2, l0, l1, l2, i0, i1⟩ := HS7.out.boxes))
  have HF := HS7.out.pc HFL.out (a)
  have hz := blk_set (blk_set (blk_set HF.res 0 (.int .i64 0)) 1 (.int .i64 0)) 2 (.int .i64 0)
  have e0 := (blk_cell hz 0).trans (show _ = some (Value.int .i64 0) from rfl)
  have e1 := (blk_cell hz 1).trans (show _ = some (Value.int .i64 0) from rfl)
  have e2 := (blk_cell hz 2).trans (show _ = some (Value.int .i64 0) from rfl)
  exact bodyPost_ret (v := .agg #[.int .i64 0, .int .i64 0, .int .i64 0]) (by simp [results, Try.results54, go_sem, e0, e1, e2]) rfl (HF.told 0 0 0 HFL.out HR.out rfl)
set_option maxHeartbeats 8000000 in
set_option maxRecDepth 100000 in
theorem step_trap (W : World) (base g : Nat) (Ac : Option Addr) (cc : Nat) (code : List In) (p : Value) (f : Nat → Prop) (v1 v2 : Value) (s : St) (m : Mem) (h : Mach W base g Ac cc code p f v1 v2 s m) (hbase : base ≤ W.heap.size) (hs : mayP s code.length) (hlt : s.pc < (code.length : Int)) (hlen : code.length ≤ 1024) (a : Int) (hop : inAt code s.pc = ⟨24, a⟩) (hh : hasP 24 a s.st.length = true) : Calls Try.prog 54 #[.pointer (some ⟨g, 0, none⟩)] W (StepPost W base g Ac cc code p f v1 v2 (stepP memK code s m)) := by
  have HH := Aside0.mk hh
  have HT := Aside0.mk (show 0 ≤ s.st.length from by unfold hasP at hh; simp at hh; omega)
  have HR := Aside0.mk (show stepP memK code s m = (⟨s.pc + 1, s.st, s.ca⟩, m, 2, a) from by unfold stepP; rw [if_neg (by omega), hop, if_neg (by rw [hh]; simp)]; simp [opP, cutP_zero, *])
  clear hh
  obtain ⟨hp0, hp1, hl, hcl, _⟩ := hs
  have hfl := h.mem.lt
  obtain ⟨B, d, rfl⟩ : ∃ B d, v1 = .slice B s.st.length d := own_slice h.stk
  obtain ⟨E, c, rfl⟩ : ∃ E c, v2 = .slice E s.ca.length c := own_slice h.cal
  have HFL := Aside0.mk (show ∀ k, f k → k < W.heap.size ∨ W.heap.size + 3 ≤ k from fun k hk => .inl (hfl k hk))

  obtain ⟨b, o, rfl, hbw, hcell⟩ := code_at h.cde (by omega)
  obtain ⟨x0, x1⟩ := hcell s.pc.toNat (by omega)
  rw [Int.toNat_of_nonneg hp0, hop] at x0 x1
  generalize hW : ((W.alloc (.cells #[.int .i64 0, .int .i64 0, .int .i64 0] 53)).alloc (.cells #[.int .i64 4, .int .i64 0, .int .i64 0] 53)) = W1 at *
  have hb1 := below_alloc (below_alloc (Below.refl W.heap.size W) (.cells #[.int .i64 0, .int .i64 0, .int .i64 0] 53)) (.cells #[.int .i64 4, .int .i64 0, .int .i64 0] 53)
  rw [hW] at hb1
  have hz1 : W1.heap.size = W.heap.size + 2 := by rw [← hW]; simp
  have y0 : W1.heap[W.heap.size]? = some (.cells #[.int .i64 0, .int .i64 0, .int .i64 0] 53 (0, 0)) := by
    rw [← hW]; exact (heap_alloc_old _ _ (by simp)).trans (heap_alloc_new W _)
  have y1 : W1.heap[W.heap.size + 1]? = some (.cells #[.int .i64 4, .int .i64 0, .int .i64 0] 53 (0, 0)) := by
    rw [← hW]
    have := heap_alloc_new (W.alloc (.cells #[.int .i64 0, .int .i64 0, .int .i64 0] 53)) (.cells #[.int .i64 4, .int .i64 0, .int .i64 0] 53)
    simpa using this
  have hm1 := h.step hb1
  have c0 : W1.cell? ⟨g, 0, none⟩ = some (.slice (some ⟨b, o, none⟩) code.length cc) := blk_cell hm1.box 0
  have c1 : W1.cell? ⟨g, 1, none⟩ = some (.int .i64 s.pc) := blk_cell hm1.box 1
  replace x0 := (hb1.cell (p := ⟨b, o + s.pc.toNat * 2, none⟩) hbw).trans x0
  replace x1 := (hb1.cell (p := ⟨b, o + s.pc.toNat * 2 + 1, none⟩) hbw).trans x1
  have t0 : (s.pc == (code.length : Int)) = false := by simp; omega
  have e1 : wrap64 (s.pc + 1) = s.pc + 1 := by unfold wrap64; omega
  have n0 : (W.heap.size = g) = False := eq_false (by have := h.gl; omega)
  have n1 : (g = W.heap.size) = False := eq_false (by have := h.gl; omega)
  have n2 : (W.heap.size + 2 = g) = False := eq_false (by have := h.gl; omega)
  have n3 : (g = W.heap.size + 2) = False := eq_false (by have := h.gl; omega)
  have HSE := Aside0.mk (fun (w3 : World) (hb : Below W1.heap.size W1 w3) hn => SE.init h hbase hb1 hz1 y0 y1 hb (w3 := w3) hn 24 a)
  have HW := Aside0.mk hW
  have HM1 := Aside0.mk hm1
  have HZ := Aside0.mk hz1
  have HG := Aside0.mk (show b < W1.heap.size from Nat.lt_of_lt_of_le hbw hb1.size)
  have HGL := Aside0.mk hm1.gl
  have k0 : (0 : Int) ≤ s.pc := hp0
  have k1 : s.pc < (code.length : Int) := hlt
  have HL := Aside0.mk (And.intro hl hcl)
  have h_cal := h.cal
  have h_mem := h.mem
  clear h hbase hfl hcell hW hb1 y0 y1 hm1 hp0 hp1 hlt hl hcl
  go_enter Try.func54, Try.ntmps54
  go_wp2
  rw [HW.out]
  go_quiet (fail)
  go_wp2
  refine start_ (n := 13) (S := fun w' => w'.cell? ⟨g, 0, none⟩ = some (.slice (some ⟨b, o, none⟩) code.length cc) ∧ w'.cell? ⟨g, 1, none⟩ = some (.int .i64 s.pc) ∧ w'.cell? ⟨b, o + s.pc.toNat * 2, none⟩ = some (.int .i64 24) ∧ w'.cell? ⟨b, o + s.pc.toNat * 2 + 1, none⟩ = some (.int .i64 a)) (ds := [12]) #[false, false, false, false, false, false, false, false, false, false, false, false, false] (by kernel_rfl) rfl rfl ⟨c0, c1, x0, x1⟩ (fun hHeld => ?_)
  refine pure_ (i := 0) (N := some 24) (v := ?_) (a' := ?_) #[true, false, false, false, false, false, false, false, false, false, false, false, false] rfl rfl (by kernel_rfl) (fun _ _ _ h => h) (Or.inl ⟨by rfl, ?_⟩) ?_ ?_
  rotate_left
  · intro w'
    go_simp
    with_reducible rfl
  rotate_left
  · simp only [Act.put, List.setIfInBounds_toArray, List.set_cons_zero, List.set_cons_succ, i64_w, i32_w]
    rfl
  refine pure_ (i := 1) (N := some 25) (v := ?_) (a' := ?_) #[true, true, false, false, false, false, false, false, false, false, false, false, false] rfl rfl (by kernel_rfl) (fun _ _ _ h => h) (Or.inl ⟨by rfl, ?_⟩) ?_ ?_
  rotate_left
  · intro w'
    go_simp
    with_reducible rfl
  rotate_left
  · simp only [Act.put, List.setIfInBounds_toArray, List.set_cons_zero, List.set_cons_succ, i64_w, i32_w]
    rfl
  refine pure_ (i := 2) (N := some 26) (v := ?_) (a' := ?_) #[true, true, true, false, false, false, false, false, false, false, false, false, false] rfl rfl (by kernel_rfl) (fun _ _ _ h => h) (Or.inl ⟨by rfl, ?_⟩) ?_ ?_
  rotate_left
  · intro w'
    go_simp
    with_reducible rfl
  rotate_left
  · simp only [Act.put, List.setIfInBounds_toArray, List.set_cons_zero, List.set_cons_succ, i64_w, i32_w]
    rfl
  refine pure_ (i := 4) (N := some 28) (v := ?_) (a' := ?_) #[true, true, true, false, true, false, false, false, false, false, false, false, false] rfl rfl (by kernel_rfl) (fun _ _ _ h => h) (Or.inl ⟨by rfl, ?_⟩) ?_ ?_
  rotate_left
  · intro w'
    go_simp
    with_reducible rfl
  rotate_left
  · simp only [Act.put, List.setIfInBounds_toArray, List.set_cons_zero, List.set_cons_succ, i64_w, i32_w]
    rfl
  refine pure_ (i := 5) (N := some 29) (v := ?_) (a' := ?_) #[true, true, true, false, true, true, false, false, false, false, false, false, false] rfl rfl (by kernel_rfl) (fun _ _ _ h => h) (Or.inl ⟨by rfl, ?_⟩) ?_ ?_
  rotate_left
  · intro w'
    go_simp
    with_reducible rfl
  rotate_left
  · simp only [Act.put, List.setIfInBounds_toArray, List.set_cons_zero, List.set_cons_succ, i64_w, i32_w]
    rfl
  refine pure_ (i := 6) (N := some 30) (v := ?_) (a' := ?_) #[true, true, true, false, true, true, true, false, false, false, false, false, false] rfl rfl (by kernel_rfl) (fun _ _ _ h => h) (Or.inl ⟨by rfl, ?_⟩) ?_ ?_
  rotate_left
  · intro w'
    go_simp
    with_reducible rfl
  rotate_left
  · simp only [Act.put, List.setIfInBounds_toArray, List.set_cons_zero, List.set_cons_succ, i64_w, i32_w]
    rfl
  refine pure_ (i := 7) (N := some 31) (v := ?_) (a' := ?_) #[true, true, true, false, true, true, true, true, false, false, false, false, false] rfl rfl (by kernel_rfl) (fun _ _ _ h => h) (Or.inl ⟨by rfl, ?_⟩) ?_ ?_
  rotate_left
  · intro w'
    go_simp
    with_reducible rfl
  rotate_left
  · simp only [Act.put, List.setIfInBounds_toArray, List.set_cons_zero, List.set_cons_succ, i64_w, i32_w]
    rfl
  refine take_ (i := 3) (N := some 27) (v := ?_) (a' := ?_) #[true, true, true, true, true, true, true, true, false, false, false, false, false] rfl rfl (by kernel_rfl) (fun _ _ _ h => h) (Or.inl ⟨by rfl, ?_⟩) hHeld ?_ ?_
  rotate_left
  · rintro w' ⟨s0, s1, s2, s3⟩
    go_simp
    with_reducible rfl
  rotate_left
  · simp only [Act.put, List.setIfInBounds_toArray, List.set_cons_zero, List.set_cons_succ, i64_w, i32_w]
    rfl
  refine take_ (i := 8) (N := some 32) (v := ?_) (a' := ?_) #[true, true, true, true, true, true, true, true, true, false, false, false, false] rfl rfl (by kernel_rfl) (fun _ _ _ h => h) (Or.inl ⟨by rfl, ?_⟩) hHeld ?_ ?_
  rotate_left
  · rintro w' ⟨s0, s1, s2, s3⟩
    go_simp
    with_reducible rfl
  rotate_left
  · simp only [Act.put, List.setIfInBounds_toArray, List.set_cons_zero, List.set_cons_succ, i64_w, i32_w]
    rfl
  refine pure_ (i := 9) (N := some 33) (v := ?_) (a' := ?_) #[true, true, true, true, true, true, true, true, true, true, false, false, false] rfl rfl (by kernel_rfl) (fun _ _ _ h => h) (Or.inl ⟨by rfl, ?_⟩) ?_ ?_
  rotate_left
  · intro w'
    go_simp
    with_reducible rfl
  rotate_left
  · simp only [Act.put, List.setIfInBounds_toArray, List.set_cons_zero, List.set_cons_succ, i64_w, i32_w]
    rfl
  refine take_ (i := 10) (N := some 34) (v := ?_) (a' := ?_) #[true, true, true, true, true, true, true, true, true, true, true, false, false] rfl rfl (by kernel_rfl) (fun _ _ _ h => h) (Or.inl ⟨by rfl, ?_⟩) hHeld ?_ ?_
  rotate_left
  · rintro w' ⟨s0, s1, s2, s3⟩
    go_simp
    with_reducible rfl
  rotate_left
  · simp only [Act.put, List.setIfInBounds_toArray, List.set_cons_zero, List.set_cons_succ, i64_w, i32_w]
    rfl
  refine one_ (i := 11) (N := some 4) #[true, true, true, true, true, true, true, true, true, true, true, true, false] rfl rfl (by kernel_rfl) (by decide) (fun K hK => ?_)
  refine value_ (w1 := ?_) (v := ?_) (by rfl) rfl ?_ ?_
  rotate_left 2
  · go_simp
    constructor
    · rfl
    · rfl
  have hb3 : Below W1.heap.size W1 ((W1.drewN (nq + 1)).alloc (.cells #[.int .i64 0, .int .i64 0] 27)) := below_alloc (w := W1) (pw_below_drewN (Below.refl W1.heap.size W1) (nq + 1)) _
  have hn3 : ((W1.drewN (nq + 1)).alloc (.cells #[.int .i64 0, .int .i64 0] 27)).heap[W.heap.size + 2]? = some (.cells #[.int .i64 0, .int .i64 0] 27 (0, 0)) := by rw [← hz1]; exact heap_alloc_new (W1.drewN (nq + 1)) _
  generalize (W1.drewN (nq + 1)).alloc (.cells #[.int .i64 0, .int .i64 0] 27) = w3 at *
  have HB3 := Aside0.mk hb3
  have i0 := blk_cell hn3 0
  have i1 := blk_cell hn3 1
  have j0 := blk_frozen hn3 0
  have j1 := blk_frozen hn3 1
  have hs4 := HSE.out w3 hb3 hn3
  clear hb3 hn3
  have HS4 := Aside0.mk hs4
  clear hs4
  refine hK.out _ _ ⟨(HB3.out.cell (p := ⟨g, 0, none⟩) HGL.out).trans c0, (HB3.out.cell (p := ⟨g, 1, none⟩) HGL.out).trans c1, (HB3.out.cell (p := ⟨b, o + s.pc.toNat * 2, none⟩) HG.out).trans x0, (HB3.out.cell (p := ⟨b, o + s.pc.toNat * 2 + 1, none⟩) HG.out).trans x1⟩ (fun hHeld => ?_)
  clear hK K
  refine norm_ (a' := ?_) ?_ ?_
  rotate_left
  · show Act.put _ (some 4) _ = _
    simp only [Act.put, List.setIfInBounds_toArray, List.set_cons_zero, List.set_cons_succ, i64_w, i32_w]
    rfl
  refine last_ (i := 12) (N := none) #[true, true, true, true, true, true, true, true, true, true, true, true, true] rfl rfl (by kernel_rfl) (by decide) (fun K hK => ?_)
  refine skip_ (w1 := ?_) (by rfl) rfl ?_ ?_
  rotate_left
  · go_simp
    rfl
  refine hK.out _ _ ?_
  clear hK K
  refine done_ (by kernel_rfl) ?_

  have HS4' : Aside0 _ := HS4
  clear HS4
  generalize (w3.setCell ⟨W.heap.size + 2, 0, none⟩ (.int .i64 24)).setCell ⟨W.heap.size + 2, 1, none⟩ (.int .i64 a) = w4 at *
  have HS4 := HS4'
  clear HS4' c0 c1 x0 x1 i0 i1 j0 j1 HSE hHeld HB3
  obtain ⟨c0, c1, c2, c3, c4, g1, g3⟩ := HS4.out.cells; obtain ⟨b0, b1, b2, h0, h1, h2, l0, l1, l2, i0, i1⟩ := HS4.out.boxes
  go_wp2_with (first
    | (go_at_call 62; (with_reducible refine (has_calls _ g B s.st.length d 24 a c2 HL.out.1).mono ?_); rintro e w5 ⟨he, hb5⟩; rw [HH.out] at he; subst he; have HS5 := Aside0.mk (HS4.out.step hb5); clear hb5 c0 c1 c2 c3 c4 g1 g3 b0 b1 b2 h0 h1 h2 l0 l1 l2 i0 i1; obtain ⟨c0, c1, c2, c3, c4, g1, g3⟩ := HS5.out.cells; obtain ⟨b0, b1, b2, h0, h1, h2, l0, l1, l2, i0, i1⟩ := HS5.out.boxes))
  have HF := HS5.out.pc HFL.out (s.pc + 1)
  have hz := blk_set (blk_set (blk_set HF.res 0 (.int .i64 2)) 1 (.int .i64 a)) 2 (.int .i64 0)
  have e0 := (blk_cell hz 0).trans (show _ = some (Value.int .i64 2) from rfl)
  have e1 := (blk_cell hz 1).trans (show _ = some (Value.int .i64 a) from rfl)
  have e2 := (blk_cell hz 2).trans (show _ = some (Value.int .i64 0) from rfl)
  exact bodyPost_ret (v := .agg #[.int .i64 2, .int .i64 a, .int .i64 0]) (by simp [results, Try.results54, go_sem, e0, e1, e2]) rfl (HF.told 2 a 0 HFL.out HR.out rfl)
set_option maxHeartbeats 8000000 in
set_option maxRecDepth 100000 in
theorem step_halt (W : World) (base g : Nat) (Ac : Option Addr) (cc : Nat) (code : List In) (p : Value) (f : Nat → Prop) (v1 v2 : Value) (s : St) (m : Mem) (h : Mach W base g Ac cc code p f v1 v2 s m) (hbase : base ≤ W.heap.size) (hs : mayP s code.length) (hlt : s.pc < (code.length : Int)) (hlen : code.length ≤ 1024) (a : Int) (hop : inAt code s.pc = ⟨25, a⟩) (hh : hasP 25 a s.st.length = true) : Calls Try.prog 54 #[.pointer (some ⟨g, 0, none⟩)] W (StepPost W base g Ac cc code p f v1 v2 (stepP memK code s m)) := by
  have HH := Aside0.mk hh
  have HT := Aside0.mk (show 0 ≤ s.st.length from by unfold hasP at hh; simp at hh; omega)
  have HR := Aside0.mk (show stepP memK code s m = (s, m, 3, 0) from by unfold stepP; rw [if_neg (by omega), hop, if_neg (by rw [hh]; simp)]; simp [opP, cutP_zero, *])
  clear hh
  obtain ⟨hp0, hp1, hl, hcl, _⟩ := hs
  have hfl := h.mem.lt
  obtain ⟨B, d, rfl⟩ : ∃ B d, v1 = .slice B s.st.length d := own_slice h.stk
  obtain ⟨E, c, rfl⟩ : ∃ E c, v2 = .slice E s.ca.length c := own_slice h.cal
  have HFL := Aside0.mk (show ∀ k, f k → k < W.heap.size ∨ W.heap.size + 3 ≤ k from fun k hk => .inl (hfl k hk))

  obtain ⟨b, o, rfl, hbw, hcell⟩ := code_at h.cde (by omega)
  obtain ⟨x0, x1⟩ := hcell s.pc.toNat (by omega)
  rw [Int.toNat_of_nonneg hp0, hop] at x0 x1
  generalize hW : ((W.alloc (.cells #[.int .i64 0, .int .i64 0, .int .i64 0] 53)).alloc (.cells #[.int .i64 4, .int .i64 0, .int .i64 0] 53)) = W1 at *
  have hb1 := below_alloc (below_alloc (Below.refl W.heap.size W) (.cells #[.int .i64 0, .int .i64 0, .int .i64 0] 53)) (.cells #[.int .i64 4, .int .i64 0, .int .i64 0] 53)
  rw [hW] at hb1
  have hz1 : W1.heap.size = W.heap.size + 2 := by rw [← hW]; simp
  have y0 : W1.heap[W.heap.size]? = some (.cells #[.int .i64 0, .int .i64 0, .int .i64 0] 53 (0, 0)) := by
    rw [← hW]; exact (heap_alloc_old _ _ (by simp)).trans (heap_alloc_new W _)
  have y1 : W1.heap[W.heap.size + 1]? = some (.cells #[.int .i64 4, .int .i64 0, .int .i64 0] 53 (0, 0)) := by
    rw [← hW]
    have := heap_alloc_new (W.alloc (.cells #[.int .i64 0, .int .i64 0, .int .i64 0] 53)) (.cells #[.int .i64 4, .int .i64 0, .int .i64 0] 53)
    simpa using this
  have hm1 := h.step hb1
  have c0 : W1.cell? ⟨g, 0, none⟩ = some (.slice (some ⟨b, o, none⟩) code.length cc) := blk_cell hm1.box 0
  have c1 : W1.cell? ⟨g, 1, none⟩ = some (.int .i64 s.pc) := blk_cell hm1.box 1
  replace x0 := (hb1.cell (p := ⟨b, o + s.pc.toNat * 2, none⟩) hbw).trans x0
  replace x1 := (hb1.cell (p := ⟨b, o + s.pc.toNat * 2 + 1, none⟩) hbw).trans x1
  have t0 : (s.pc == (code.length : Int)) = false := by simp; omega
  have e1 : wrap64 (s.pc + 1) = s.pc + 1 := by unfold wrap64; omega
  have n0 : (W.heap.size = g) = False := eq_false (by have := h.gl; omega)
  have n1 : (g = W.heap.size) = False := eq_false (by have := h.gl; omega)
  have n2 : (W.heap.size + 2 = g) = False := eq_false (by have := h.gl; omega)
  have n3 : (g = W.heap.size + 2) = False := eq_false (by have := h.gl; omega)
  have HSE := Aside0.mk (fun (w3 : World) (hb : Below W1.heap.size W1 w3) hn => SE.init h hbase hb1 hz1 y0 y1 hb (w3 := w3) hn 25 a)
  have HW := Aside0.mk hW
  have HM1 := Aside0.mk hm1
  have HZ := Aside0.mk hz1
  have HG := Aside0.mk (show b < W1.heap.size from Nat.lt_of_lt_of_le hbw hb1.size)
  have HGL := Aside0.mk hm1.gl
  have k0 : (0 : Int) ≤ s.pc := hp0
  have k1 : s.pc < (code.length : Int) := hlt
  have HL := Aside0.mk (And.intro hl hcl)
  have h_cal := h.cal
  have h_mem := h.mem
  clear h hbase hfl hcell hW hb1 y0 y1 hm1 hp0 hp1 hlt hl hcl
  go_enter Try.func54, Try.ntmps54
  go_wp2
  rw [HW.out]
  go_quiet (fail)
  go_wp2
  refine start_ (n := 13) (S := fun w' => w'.cell? ⟨g, 0, none⟩ = some (.slice (some ⟨b, o, none⟩) code.length cc) ∧ w'.cell? ⟨g, 1, none⟩ = some (.int .i64 s.pc) ∧ w'.cell? ⟨b, o + s.pc.toNat * 2, none⟩ = some (.int .i64 25) ∧ w'.cell? ⟨b, o + s.pc.toNat * 2 + 1, none⟩ = some (.int .i64 a)) (ds := [12]) #[false, false, false, false, false, false, false, false, false, false, false, false, false] (by kernel_rfl) rfl rfl ⟨c0, c1, x0, x1⟩ (fun hHeld => ?_)
  refine pure_ (i := 0) (N := some 24) (v := ?_) (a' := ?_) #[true, false, false, false, false, false, false, false, false, false, false, false, false] rfl rfl (by kernel_rfl) (fun _ _ _ h => h) (Or.inl ⟨by rfl, ?_⟩) ?_ ?_
  rotate_left
  · intro w'
    go_simp
    with_reducible rfl
  rotate_left
  · simp only [Act.put, List.setIfInBounds_toArray, List.set_cons_zero, List.set_cons_succ, i64_w, i32_w]
    rfl
  refine pure_ (i := 1) (N := some 25) (v := ?_) (a' := ?_) #[true, true, false, false, false, false, false, false, false, false, false, false, false] rfl rfl (by kernel_rfl) (fun _ _ _ h => h) (Or.inl ⟨by rfl, ?_⟩) ?_ ?_
  rotate_left
  · intro w'
    go_simp
    with_reducible rfl
  rotate_left
  · simp only [Act.put, List.setIfInBounds_toArray, List.set_cons_zero, List.set_cons_succ, i64_w, i32_w]
    rfl
  refine pure_ (i := 2) (N := some 26) (v := ?_) (a' := ?_) #[true, true, true, false, false, false, false, false, false, false, false, false, false] rfl rfl (by kernel_rfl) (fun _ _ _ h => h) (Or.inl ⟨by rfl, ?_⟩) ?_ ?_
  rotate_left
  · intro w'
    go_simp
    with_reducible rfl
  rotate_left
  · simp only [Act.put, List.setIfInBounds_toArray, List.set_cons_zero, List.set_cons_succ, i64_w, i32_w]
    rfl
  refine pure_ (i := 4) (N := some 28) (v := ?_) (a' := ?_) #[true, true, true, false, true, false, false, false, false, false, false, false, false] rfl rfl (by kernel_rfl) (fun _ _ _ h => h) (Or.inl ⟨by rfl, ?_⟩) ?_ ?_
  rotate_left
  · intro w'
    go_simp
    with_reducible rfl
  rotate_left
  · simp only [Act.put, List.setIfInBounds_toArray, List.set_cons_zero, List.set_cons_succ, i64_w, i32_w]
    rfl
  refine pure_ (i := 5) (N := some 29) (v := ?_) (a' := ?_) #[true, true, true, false, true, true, false, false, false, false, false, false, false] rfl rfl (by kernel_rfl) (fun _ _ _ h => h) (Or.inl ⟨by rfl, ?_⟩) ?_ ?_
  rotate_left
  · intro w'
    go_simp
    with_reducible rfl
  rotate_left
  · simp only [Act.put, List.setIfInBounds_toArray, List.set_cons_zero, List.set_cons_succ, i64_w, i32_w]
    rfl
  refine pure_ (i := 6) (N := some 30) (v := ?_) (a' := ?_) #[true, true, true, false, true, true, true, false, false, false, false, false, false] rfl rfl (by kernel_rfl) (fun _ _ _ h => h) (Or.inl ⟨by rfl, ?_⟩) ?_ ?_
  rotate_left
  · intro w'
    go_simp
    with_reducible rfl
  rotate_left
  · simp only [Act.put, List.setIfInBounds_toArray, List.set_cons_zero, List.set_cons_succ, i64_w, i32_w]
    rfl
  refine pure_ (i := 7) (N := some 31) (v := ?_) (a' := ?_) #[true, true, true, false, true, true, true, true, false, false, false, false, false] rfl rfl (by kernel_rfl) (fun _ _ _ h => h) (Or.inl ⟨by rfl, ?_⟩) ?_ ?_
  rotate_left
  · intro w'
    go_simp
    with_reducible rfl
  rotate_left
  · simp only [Act.put, List.setIfInBounds_toArray, List.set_cons_zero, List.set_cons_succ, i64_w, i32_w]
    rfl
  refine take_ (i := 3) (N := some 27) (v := ?_) (a' := ?_) #[true, true, true, true, true, true, true, true, false, false, false, false, false] rfl rfl (by kernel_rfl) (fun _ _ _ h => h) (Or.inl ⟨by rfl, ?_⟩) hHeld ?_ ?_
  rotate_left
  · rintro w' ⟨s0, s1, s2, s3⟩
    go_simp
    with_reducible rfl
  rotate_left
  · simp only [Act.put, List.setIfInBounds_toArray, List.set_cons_zero, List.set_cons_succ, i64_w, i32_w]
    rfl
  refine take_ (i := 8) (N := some 32) (v := ?_) (a' := ?_) #[true, true, true, true, true, true, true, true, true, false, false, false, false] rfl rfl (by kernel_rfl) (fun _ _ _ h => h) (Or.inl ⟨by rfl, ?_⟩) hHeld ?_ ?_
  rotate_left
  · rintro w' ⟨s0, s1, s2, s3⟩
    go_simp
    with_reducible rfl
  rotate_left
  · simp only [Act.put, List.setIfInBounds_toArray, List.set_cons_zero, List.set_cons_succ, i64_w, i32_w]
    rfl
  refine pure_ (i := 9) (N := some 33) (v := ?_) (a' := ?_) #[true, true, true, true, true, true, true, true, true, true, false, false, false] rfl rfl (by kernel_rfl) (fun _ _ _ h => h) (Or.inl ⟨by rfl, ?_⟩) ?_ ?_
  rotate_left
  · intro w'
    go_simp
    with_reducible rfl
  rotate_left
  · simp only [Act.put, List.setIfInBounds_toArray, List.set_cons_zero, List.set_cons_succ, i64_w, i32_w]
    rfl
  refine take_ (i := 10) (N := some 34) (v := ?_) (a' := ?_) #[true, true, true, true, true, true, true, true, true, true, true, false, false] rfl rfl (by kernel_rfl) (fun _ _ _ h => h) (Or.inl ⟨by rfl, ?_⟩) hHeld ?_ ?_
  rotate_left
  · rintro w' ⟨s0, s1, s2, s3⟩
    go_simp
    with_reducible rfl
  rotate_left
  · simp only [Act.put, List.setIfInBounds_toArray, List.set_cons_zero, List.set_cons_succ, i64_w, i32_w]
    rfl
  refine one_ (i := 11) (N := some 4) #[true, true, true, true, true, true, true, true, true, true, true, true, false] rfl rfl (by kernel_rfl) (by decide) (fun K hK => ?_)
  refine value_ (w1 := ?_) (v := ?_) (by rfl) rfl ?_ ?_
  rotate_left 2
  · go_simp
    constructor
    · rfl
    · rfl
  have hb3 : Below W1.heap.size W1 ((W1.drewN (nq + 1)).alloc (.cells #[.int .i64 0, .int .i64 0] 27)) := below_alloc (w := W1) (pw_below_drewN (Below.refl W1.heap.size W1) (nq + 1)) _
  have hn3 : ((W1.drewN (nq + 1)).alloc (.cells #[.int .i64 0, .int .i64 0] 27)).heap[W.heap.size + 2]? = some (.cells #[.int .i64 0, .int .i64 0] 27 (0, 0)) := by rw [← hz1]; exact heap_alloc_new (W1.drewN (nq + 1)) _
  generalize (W1.drewN (nq + 1)).alloc (.cells #[.int .i64 0, .int .i64 0] 27) = w3 at *
  have HB3 := Aside0.mk hb3
  have i0 := blk_cell hn3 0
  have i1 := blk_cell hn3 1
  have j0 := blk_frozen hn3 0
  have j1 := blk_frozen hn3 1
  have hs4 := HSE.out w3 hb3 hn3
  clear hb3 hn3
  have HS4 := Aside0.mk hs4
  clear hs4
  refine hK.out _ _ ⟨(HB3.out.cell (p := ⟨g, 0, none⟩) HGL.out).trans c0, (HB3.out.cell (p := ⟨g, 1, none⟩) HGL.out).trans c1, (HB3.out.cell (p := ⟨b, o + s.pc.toNat * 2, none⟩) HG.out).trans x0, (HB3.out.cell (p := ⟨b, o + s.pc.toNat * 2 + 1, none⟩) HG.out).trans x1⟩ (fun hHeld => ?_)
  clear hK K
  refine norm_ (a' := ?_) ?_ ?_
  rotate_left
  · show Act.put _ (some 4) _ = _
    simp only [Act.put, List.setIfInBounds_toArray, List.set_cons_zero, List.set_cons_succ, i64_w, i32_w]
    rfl
  refine last_ (i := 12) (N := none) #[true, true, true, true, true, true, true, true, true, true, true, true, true] rfl rfl (by kernel_rfl) (by decide) (fun K hK => ?_)
  refine skip_ (w1 := ?_) (by rfl) rfl ?_ ?_
  rotate_left
  · go_simp
    rfl
  refine hK.out _ _ ?_
  clear hK K
  refine done_ (by kernel_rfl) ?_

  have HS4' : Aside0 _ := HS4
  clear HS4
  generalize (w3.setCell ⟨W.heap.size + 2, 0, none⟩ (.int .i64 25)).setCell ⟨W.heap.size + 2, 1, none⟩ (.int .i64 a) = w4 at *
  have HS4 := HS4'
  clear HS4' c0 c1 x0 x1 i0 i1 j0 j1 HSE hHeld HB3
  obtain ⟨c0, c1, c2, c3, c4, g1, g3⟩ := HS4.out.cells; obtain ⟨b0, b1, b2, h0, h1, h2, l0, l1, l2, i0, i1⟩ := HS4.out.boxes
  go_wp2_with (first
    | (go_at_call 62; (with_reducible refine (has_calls _ g B s.st.length d 25 a c2 HL.out.1).mono ?_); rintro e w5 ⟨he, hb5⟩; rw [HH.out] at he; subst he; have HS5 := Aside0.mk (HS4.out.step hb5); clear hb5 c0 c1 c2 c3 c4 g1 g3 b0 b1 b2 h0 h1 h2 l0 l1 l2 i0 i1; obtain ⟨c0, c1, c2, c3, c4, g1, g3⟩ := HS5.out.cells; obtain ⟨b0, b1, b2, h0, h1, h2, l0, l1, l2, i0, i1⟩ := HS5.out.boxes))
  have HF := HS5.out
  have hz := blk_set (blk_set (blk_set HF.res 0 (.int .i64 3)) 1 (.int .i64 0)) 2 (.int .i64 0)
  have e0 := (blk_cell hz 0).trans (show _ = some (Value.int .i64 3) from rfl)
  have e1 := (blk_cell hz 1).trans (show _ = some (Value.int .i64 0) from rfl)
  have e2 := (blk_cell hz 2).trans (show _ = some (Value.int .i64 0) from rfl)
  exact bodyPost_ret (v := .agg #[.int .i64 3, .int .i64 0, .int .i64 0]) (by simp [results, Try.results54, go_sem, e0, e1, e2]) rfl (HF.told 3 0 0 HFL.out HR.out rfl)
set_option maxHeartbeats 8000000 in
set_option maxRecDepth 100000 in
theorem step_callno (W : World) (base g : Nat) (Ac : Option Addr) (cc : Nat) (code : List In) (p : Value) (f : Nat → Prop) (v1 v2 : Value) (s : St) (m : Mem) (h : Mach W base g Ac cc code p f v1 v2 s m) (hbase : base ≤ W.heap.size) (hs : mayP s code.length) (hlt : s.pc < (code.length : Int)) (hlen : code.length ≤ 1024) (a : Int) (hx : s.ca.length = 32) (hop : inAt code s.pc = ⟨22, a⟩) (hh : hasP 22 a s.st.length = true) : Calls Try.prog 54 #[.pointer (some ⟨g, 0, none⟩)] W (StepPost W base g Ac cc code p f v1 v2 (stepP memK code s m)) := by
  have HH := Aside0.mk hh
  have HT := Aside0.mk (show 0 ≤ s.st.length from by unfold hasP at hh; simp at hh; omega)
  have HR := Aside0.mk (show stepP memK code s m = (s, m, 4, 0) from by unfold stepP; rw [if_neg (by omega), hop, if_neg (by rw [hh]; simp)]; simp [opP, cutP_zero, *])
  clear hh
  obtain ⟨hp0, hp1, hl, hcl, _⟩ := hs
  have hfl := h.mem.lt
  obtain ⟨B, d, rfl⟩ : ∃ B d, v1 = .slice B s.st.length d := own_slice h.stk
  obtain ⟨E, c, rfl⟩ : ∃ E c, v2 = .slice E s.ca.length c := own_slice h.cal
  have HFL := Aside0.mk (show ∀ k, f k → k < W.heap.size ∨ W.heap.size + 3 ≤ k from fun k hk => .inl (hfl k hk))

  obtain ⟨b, o, rfl, hbw, hcell⟩ := code_at h.cde (by omega)
  obtain ⟨x0, x1⟩ := hcell s.pc.toNat (by omega)
  rw [Int.toNat_of_nonneg hp0, hop] at x0 x1
  generalize hW : ((W.alloc (.cells #[.int .i64 0, .int .i64 0, .int .i64 0] 53)).alloc (.cells #[.int .i64 4, .int .i64 0, .int .i64 0] 53)) = W1 at *
  have hb1 := below_alloc (below_alloc (Below.refl W.heap.size W) (.cells #[.int .i64 0, .int .i64 0, .int .i64 0] 53)) (.cells #[.int .i64 4, .int .i64 0, .int .i64 0] 53)
  rw [hW] at hb1
  have hz1 : W1.heap.size = W.heap.size + 2 := by rw [← hW]; simp
  have y0 : W1.heap[W.heap.size]? = some (.cells #[.int .i64 0, .int .i64 0, .int .i64 0] 53 (0, 0)) := by
    rw [← hW]; exact (heap_alloc_old _ _ (by simp)).trans (heap_alloc_new W _)
  have y1 : W1.heap[W.heap.size + 1]? = some (.cells #[.int .i64 4, .int .i64 0, .int .i64 0] 53 (0, 0)) := by
    rw [← hW]
    have := heap_alloc_new (W.alloc (.cells #[.int .i64 0, .int .i64 0, .int .i64 0] 53)) (.cells #[.int .i64 4, .int .i64 0, .int .i64 0] 53)
    simpa using this
  have hm1 := h.step hb1
  have c0 : W1.cell? ⟨g, 0, none⟩ = some (.slice (some ⟨b, o, none⟩) code.length cc) := blk_cell hm1.box 0
  have c1 : W1.cell? ⟨g, 1, none⟩ = some (.int .i64 s.pc) := blk_cell hm1.box 1
  replace x0 := (hb1.cell (p := ⟨b, o + s.pc.toNat * 2, none⟩) hbw).trans x0
  replace x1 := (hb1.cell (p := ⟨b, o + s.pc.toNat * 2 + 1, none⟩) hbw).trans x1
  have t0 : (s.pc == (code.length : Int)) = false := by simp; omega
  have e1 : wrap64 (s.pc + 1) = s.pc + 1 := by unfold wrap64; omega
  have n0 : (W.heap.size = g) = False := eq_false (by have := h.gl; omega)
  have n1 : (g = W.heap.size) = False := eq_false (by have := h.gl; omega)
  have n2 : (W.heap.size + 2 = g) = False := eq_false (by have := h.gl; omega)
  have n3 : (g = W.heap.size + 2) = False := eq_false (by have := h.gl; omega)
  have HSE := Aside0.mk (fun (w3 : World) (hb : Below W1.heap.size W1 w3) hn => SE.init h hbase hb1 hz1 y0 y1 hb (w3 := w3) hn 22 a)
  have HW := Aside0.mk hW
  have HM1 := Aside0.mk hm1
  have HZ := Aside0.mk hz1
  have HG := Aside0.mk (show b < W1.heap.size from Nat.lt_of_lt_of_le hbw hb1.size)
  have HGL := Aside0.mk hm1.gl
  have k0 : (0 : Int) ≤ s.pc := hp0
  have k1 : s.pc < (code.length : Int) := hlt
  have HL := Aside0.mk (And.intro hl hcl)
  have h_cal := h.cal
  have h_mem := h.mem
  clear h hbase hfl hcell hW hb1 y0 y1 hm1 hp0 hp1 hlt hl hcl
  go_enter Try.func54, Try.ntmps54
  go_wp2
  rw [HW.out]
  go_quiet (fail)
  go_wp2
  refine start_ (n := 13) (S := fun w' => w'.cell? ⟨g, 0, none⟩ = some (.slice (some ⟨b, o, none⟩) code.length cc) ∧ w'.cell? ⟨g, 1, none⟩ = some (.int .i64 s.pc) ∧ w'.cell? ⟨b, o + s.pc.toNat * 2, none⟩ = some (.int .i64 22) ∧ w'.cell? ⟨b, o + s.pc.toNat * 2 + 1, none⟩ = some (.int .i64 a)) (ds := [12]) #[false, false, false, false, false, false, false, false, false, false, false, false, false] (by kernel_rfl) rfl rfl ⟨c0, c1, x0, x1⟩ (fun hHeld => ?_)
  refine pure_ (i := 0) (N := some 24) (v := ?_) (a' := ?_) #[true, false, false, false, false, false, false, false, false, false, false, false, false] rfl rfl (by kernel_rfl) (fun _ _ _ h => h) (Or.inl ⟨by rfl, ?_⟩) ?_ ?_
  rotate_left
  · intro w'
    go_simp
    with_reducible rfl
  rotate_left
  · simp only [Act.put, List.setIfInBounds_toArray, List.set_cons_zero, List.set_cons_succ, i64_w, i32_w]
    rfl
  refine pure_ (i := 1) (N := some 25) (v := ?_) (a' := ?_) #[true, true, false, false, false, false, false, false, false, false, false, false, false] rfl rfl (by kernel_rfl) (fun _ _ _ h => h) (Or.inl ⟨by rfl, ?_⟩) ?_ ?_
  rotate_left
  · intro w'
    go_simp
    with_reducible rfl
  rotate_left
  · simp only [Act.put, List.setIfInBounds_toArray, List.set_cons_zero, List.set_cons_succ, i64_w, i32_w]
    rfl
  refine pure_ (i := 2) (N := some 26) (v := ?_) (a' := ?_) #[true, true, true, false, false, false, false, false, false, false, false, false, false] rfl rfl (by kernel_rfl) (fun _ _ _ h => h) (Or.inl ⟨by rfl, ?_⟩) ?_ ?_
  rotate_left
  · intro w'
    go_simp
    with_reducible rfl
  rotate_left
  · simp only [Act.put, List.setIfInBounds_toArray, List.set_cons_zero, List.set_cons_succ, i64_w, i32_w]
    rfl
  refine pure_ (i := 4) (N := some 28) (v := ?_) (a' := ?_) #[true, true, true, false, true, false, false, false, false, false, false, false, false] rfl rfl (by kernel_rfl) (fun _ _ _ h => h) (Or.inl ⟨by rfl, ?_⟩) ?_ ?_
  rotate_left
  · intro w'
    go_simp
    with_reducible rfl
  rotate_left
  · simp only [Act.put, List.setIfInBounds_toArray, List.set_cons_zero, List.set_cons_succ, i64_w, i32_w]
    rfl
  refine pure_ (i := 5) (N := some 29) (v := ?_) (a' := ?_) #[true, true, true, false, true, true, false, false, false, false, false, false, false] rfl rfl (by kernel_rfl) (fun _ _ _ h => h) (Or.inl ⟨by rfl, ?_⟩) ?_ ?_
  rotate_left
  · intro w'
    go_simp
    with_reducible rfl
  rotate_left
  · simp only [Act.put, List.setIfInBounds_toArray, List.set_cons_zero, List.set_cons_succ, i64_w, i32_w]
    rfl
  refine pure_ (i := 6) (N := some 30) (v := ?_) (a' := ?_) #[true, true, true, false, true, true, true, false, false, false, false, false, false] rfl rfl (by kernel_rfl) (fun _ _ _ h => h) (Or.inl ⟨by rfl, ?_⟩) ?_ ?_
  rotate_left
  · intro w'
    go_simp
    with_reducible rfl
  rotate_left
  · simp only [Act.put, List.setIfInBounds_toArray, List.set_cons_zero, List.set_cons_succ, i64_w, i32_w]
    rfl
  refine pure_ (i := 7) (N := some 31) (v := ?_) (a' := ?_) #[true, true, true, false, true, true, true, true, false, false, false, false, false] rfl rfl (by kernel_rfl) (fun _ _ _ h => h) (Or.inl ⟨by rfl, ?_⟩) ?_ ?_
  rotate_left
  · intro w'
    go_simp
    with_reducible rfl
  rotate_left
  · simp only [Act.put, List.setIfInBounds_toArray, List.set_cons_zero, List.set_cons_succ, i64_w, i32_w]
    rfl
  refine take_ (i := 3) (N := some 27) (v := ?_) (a' := ?_) #[true, true, true, true, true, true, true, true, false, false, false, false, false] rfl rfl (by kernel_rfl) (fun _ _ _ h => h) (Or.inl ⟨by rfl, ?_⟩) hHeld ?_ ?_
  rotate_left
  · rintro w' ⟨s0, s1, s2, s3⟩
    go_simp
    with_reducible rfl
  rotate_left
  · simp only [Act.put, List.setIfInBounds_toArray, List.set_cons_zero, List.set_cons_succ, i64_w, i32_w]
    rfl
  refine take_ (i := 8) (N := some 32) (v := ?_) (a' := ?_) #[true, true, true, true, true, true, true, true, true, false, false, false, false] rfl rfl (by kernel_rfl) (fun _ _ _ h => h) (Or.inl ⟨by rfl, ?_⟩) hHeld ?_ ?_
  rotate_left
  · rintro w' ⟨s0, s1, s2, s3⟩
    go_simp
    with_reducible rfl
  rotate_left
  · simp only [Act.put, List.setIfInBounds_toArray, List.set_cons_zero, List.set_cons_succ, i64_w, i32_w]
    rfl
  refine pure_ (i := 9) (N := some 33) (v := ?_) (a' := ?_) #[true, true, true, true, true, true, true, true, true, true, false, false, false] rfl rfl (by kernel_rfl) (fun _ _ _ h => h) (Or.inl ⟨by rfl, ?_⟩) ?_ ?_
  rotate_left
  · intro w'
    go_simp
    with_reducible rfl
  rotate_left
  · simp only [Act.put, List.setIfInBounds_toArray, List.set_cons_zero, List.set_cons_succ, i64_w, i32_w]
    rfl
  refine take_ (i := 10) (N := some 34) (v := ?_) (a' := ?_) #[true, true, true, true, true, true, true, true, true, true, true, false, false] rfl rfl (by kernel_rfl) (fun _ _ _ h => h) (Or.inl ⟨by rfl, ?_⟩) hHeld ?_ ?_
  rotate_left
  · rintro w' ⟨s0, s1, s2, s3⟩
    go_simp
    with_reducible rfl
  rotate_left
  · simp only [Act.put, List.setIfInBounds_toArray, List.set_cons_zero, List.set_cons_succ, i64_w, i32_w]
    rfl
  refine one_ (i := 11) (N := some 4) #[true, true, true, true, true, true, true, true, true, true, true, true, false] rfl rfl (by kernel_rfl) (by decide) (fun K hK => ?_)
  refine value_ (w1 := ?_) (v := ?_) (by rfl) rfl ?_ ?_
  rotate_left 2
  · go_simp
    constructor
    · rfl
    · rfl
  have hb3 : Below W1.heap.size W1 ((W1.drewN (nq + 1)).alloc (.cells #[.int .i64 0, .int .i64 0] 27)) := below_alloc (w := W1) (pw_below_drewN (Below.refl W1.heap.size W1) (nq + 1)) _
  have hn3 : ((W1.drewN (nq + 1)).alloc (.cells #[.int .i64 0, .int .i64 0] 27)).heap[W.heap.size + 2]? = some (.cells #[.int .i64 0, .int .i64 0] 27 (0, 0)) := by rw [← hz1]; exact heap_alloc_new (W1.drewN (nq + 1)) _
  generalize (W1.drewN (nq + 1)).alloc (.cells #[.int .i64 0, .int .i64 0] 27) = w3 at *
  have HB3 := Aside0.mk hb3
  have i0 := blk_cell hn3 0
  have i1 := blk_cell hn3 1
  have j0 := blk_frozen hn3 0
  have j1 := blk_frozen hn3 1
  have hs4 := HSE.out w3 hb3 hn3
  clear hb3 hn3
  have HS4 := Aside0.mk hs4
  clear hs4
  refine hK.out _ _ ⟨(HB3.out.cell (p := ⟨g, 0, none⟩) HGL.out).trans c0, (HB3.out.cell (p := ⟨g, 1, none⟩) HGL.out).trans c1, (HB3.out.cell (p := ⟨b, o + s.pc.toNat * 2, none⟩) HG.out).trans x0, (HB3.out.cell (p := ⟨b, o + s.pc.toNat * 2 + 1, none⟩) HG.out).trans x1⟩ (fun hHeld => ?_)
  clear hK K
  refine norm_ (a' := ?_) ?_ ?_
  rotate_left
  · show Act.put _ (some 4) _ = _
    simp only [Act.put, List.setIfInBounds_toArray, List.set_cons_zero, List.set_cons_succ, i64_w, i32_w]
    rfl
  refine last_ (i := 12) (N := none) #[true, true, true, true, true, true, true, true, true, true, true, true, true] rfl rfl (by kernel_rfl) (by decide) (fun K hK => ?_)
  refine skip_ (w1 := ?_) (by rfl) rfl ?_ ?_
  rotate_left
  · go_simp
    rfl
  refine hK.out _ _ ?_
  clear hK K
  refine done_ (by kernel_rfl) ?_

  have HS4' : Aside0 _ := HS4
  clear HS4
  generalize (w3.setCell ⟨W.heap.size + 2, 0, none⟩ (.int .i64 22)).setCell ⟨W.heap.size + 2, 1, none⟩ (.int .i64 a) = w4 at *
  have HS4 := HS4'
  clear HS4' c0 c1 x0 x1 i0 i1 j0 j1 HSE hHeld HB3
  obtain ⟨c0, c1, c2, c3, c4, g1, g3⟩ := HS4.out.cells; obtain ⟨b0, b1, b2, h0, h1, h2, l0, l1, l2, i0, i1⟩ := HS4.out.boxes
  have tx : ((s.ca.length : Int) == 32) = true := by simp; omega
  clear hx
  go_wp2_with (first
    | (go_at_call 62; (with_reducible refine (has_calls _ g B s.st.length d 22 a c2 HL.out.1).mono ?_); rintro e w5 ⟨he, hb5⟩; rw [HH.out] at he; subst he; have HS5 := Aside0.mk (HS4.out.step hb5); clear hb5 c0 c1 c2 c3 c4 g1 g3 b0 b1 b2 h0 h1 h2 l0 l1 l2 i0 i1; obtain ⟨c0, c1, c2, c3, c4, g1, g3⟩ := HS5.out.cells; obtain ⟨b0, b1, b2, h0, h1, h2, l0, l1, l2, i0, i1⟩ := HS5.out.boxes))
  have HF := HS5.out
  have hz := blk_set (blk_set (blk_set HF.res 0 (.int .i64 4)) 1 (.int .i64 0)) 2 (.int .i64 0)
  have e0 := (blk_cell hz 0).trans (show _ = some (Value.int .i64 4) from rfl)
  have e1 := (blk_cell hz 1).trans (show _ = some (Value.int .i64 0) from rfl)
  have e2 := (blk_cell hz 2).trans (show _ = some (Value.int .i64 0) from rfl)
  exact bodyPost_ret (v := .agg #[.int .i64 4, .int .i64 0, .int .i64 0]) (by simp [results, Try.results54, go_sem, e0, e1, e2]) rfl (HF.told 4 0 0 HFL.out HR.out rfl)
set_option maxHeartbeats 8000000 in
set_option maxRecDepth 100000 in
theorem step_call (W : World) (base g : Nat) (Ac : Option Addr) (cc : Nat) (code : List In) (p : Value) (f : Nat → Prop) (v1 v2 : Value) (s : St) (m : Mem) (h : Mach W base g Ac cc code p f v1 v2 s m) (hbase : base ≤ W.heap.size) (hs : mayP s code.length) (hlt : s.pc < (code.length : Int)) (hlen : code.length ≤ 1024) (a : Int) (hx : s.ca.length ≠ 32) (hop : inAt code s.pc = ⟨22, a⟩) (hh : hasP 22 a s.st.length = true) : Calls Try.prog 54 #[.pointer (some ⟨g, 0, none⟩)] W (StepPost W base g Ac cc code p f v1 v2 (stepP memK code s m)) := by
  have HH := Aside0.mk hh
  have HT := Aside0.mk (show 0 ≤ s.st.length from by unfold hasP at hh; simp at hh; omega)
  have HR := Aside0.mk (show stepP memK code s m = (⟨a, s.st, s.ca ++ [s.pc + 1]⟩, m, 0, 0) from by unfold stepP; rw [if_neg (by omega), hop, if_neg (by rw [hh]; simp)]; simp [opP, cutP_zero, *])
  clear hh
  obtain ⟨hp0, hp1, hl, hcl, _⟩ := hs
  have hfl := h.mem.lt
  obtain ⟨B, d, rfl⟩ : ∃ B d, v1 = .slice B s.st.length d := own_slice h.stk
  obtain ⟨E, c, rfl⟩ : ∃ E c, v2 = .slice E s.ca.length c := own_slice h.cal
  have HFL := Aside0.mk (show ∀ k, f k → k < W.heap.size ∨ W.heap.size + 3 ≤ k from fun k hk => .inl (hfl k hk))

  obtain ⟨b, o, rfl, hbw, hcell⟩ := code_at h.cde (by omega)
  obtain ⟨x0, x1⟩ := hcell s.pc.toNat (by omega)
  rw [Int.toNat_of_nonneg hp0, hop] at x0 x1
  generalize hW : ((W.alloc (.cells #[.int .i64 0, .int .i64 0, .int .i64 0] 53)).alloc (.cells #[.int .i64 4, .int .i64 0, .int .i64 0] 53)) = W1 at *
  have hb1 := below_alloc (below_alloc (Below.refl W.heap.size W) (.cells #[.int .i64 0, .int .i64 0, .int .i64 0] 53)) (.cells #[.int .i64 4, .int .i64 0, .int .i64 0] 53)
  rw [hW] at hb1
  have hz1 : W1.heap.size = W.heap.size + 2 := by rw [← hW]; simp
  have y0 : W1.heap[W.heap.size]? = some (.cells #[.int .i64 0, .int .i64 0, .int .i64 0] 53 (0, 0)) := by
    rw [← hW]; exact (heap_alloc_old _ _ (by simp)).trans (heap_alloc_new W _)
  have y1 : W1.heap[W.heap.size + 1]? = some (.cells #[.int .i64 4, .int .i64 0, .int .i64 0] 53 (0, 0)) := by
    rw [← hW]
    have := heap_alloc_new (W.alloc (.cells #[.int .i64 0, .int .i64 0, .int .i64 0] 53)) (.cells #[.int .i64 4, .int .i64 0, .int .i64 0] 53)
    simpa using this
  have hm1 := h.step hb1
  have c0 : W1.cell? ⟨g, 0, none⟩ = some (.slice (some ⟨b, o, none⟩) code.length cc) := blk_cell hm1.box 0
  have c1 : W1.cell? ⟨g, 1, none⟩ = some (.int .i64 s.pc) := blk_cell hm1.box 1
  replace x0 := (hb1.cell (p := ⟨b, o + s.pc.toNat * 2, none⟩) hbw).trans x0
  replace x1 := (hb1.cell (p := ⟨b, o + s.pc.toNat * 2 + 1, none⟩) hbw).trans x1
  have t0 : (s.pc == (code.length : Int)) = false := by simp; omega
  have e1 : wrap64 (s.pc + 1) = s.pc + 1 := by unfold wrap64; omega
  have n0 : (W.heap.size = g) = False := eq_false (by have := h.gl; omega)
  have n1 : (g = W.heap.size) = False := eq_false (by have := h.gl; omega)
  have n2 : (W.heap.size + 2 = g) = False := eq_false (by have := h.gl; omega)
  have n3 : (g = W.heap.size + 2) = False := eq_false (by have := h.gl; omega)
  have HSE := Aside0.mk (fun (w3 : World) (hb : Below W1.heap.size W1 w3) hn => SE.init h hbase hb1 hz1 y0 y1 hb (w3 := w3) hn 22 a)
  have HW := Aside0.mk hW
  have HM1 := Aside0.mk hm1
  have HZ := Aside0.mk hz1
  have HG := Aside0.mk (show b < W1.heap.size from Nat.lt_of_lt_of_le hbw hb1.size)
  have HGL := Aside0.mk hm1.gl
  have k0 : (0 : Int) ≤ s.pc := hp0
  have k1 : s.pc < (code.length : Int) := hlt
  have HL := Aside0.mk (And.intro hl hcl)
  have h_cal := h.cal
  have h_mem := h.mem
  clear h hbase hfl hcell hW hb1 y0 y1 hm1 hp0 hp1 hlt hl hcl
  go_enter Try.func54, Try.ntmps54
  go_wp2
  rw [HW.out]
  go_quiet (fail)
  go_wp2
  refine start_ (n := 13) (S := fun w' => w'.cell? ⟨g, 0, none⟩ = some (.slice (some ⟨b, o, none⟩) code.length cc) ∧ w'.cell? ⟨g, 1, none⟩ = some (.int .i64 s.pc) ∧ w'.cell? ⟨b, o + s.pc.toNat * 2, none⟩ = some (.int .i64 22) ∧ w'.cell? ⟨b, o + s.pc.toNat * 2 + 1, none⟩ = some (.int .i64 a)) (ds := [12]) #[false, false, false, false, false, false, false, false, false, false, false, false, false] (by kernel_rfl) rfl rfl ⟨c0, c1, x0, x1⟩ (fun hHeld => ?_)
  refine pure_ (i := 0) (N := some 24) (v := ?_) (a' := ?_) #[true, false, false, false, false, false, false, false, false, false, false, false, false] rfl rfl (by kernel_rfl) (fun _ _ _ h => h) (Or.inl ⟨by rfl, ?_⟩) ?_ ?_
  rotate_left
  · intro w'
    go_simp
    with_reducible rfl
  rotate_left
  · simp only [Act.put, List.setIfInBounds_toArray, List.set_cons_zero, List.set_cons_succ, i64_w, i32_w]
    rfl
  refine pure_ (i := 1) (N := some 25) (v := ?_) (a' := ?_) #[true, true, false, false, false, false, false, false, false, false, false, false, false] rfl rfl (by kernel_rfl) (fun _ _ _ h => h) (Or.inl ⟨by rfl, ?_⟩) ?_ ?_
  rotate_left
  · intro w'
    go_simp
    with_reducible rfl
  rotate_left
  · simp only [Act.put, List.setIfInBounds_toArray, List.set_cons_zero, List.set_cons_succ, i64_w, i32_w]
    rfl
  refine pure_ (i := 2) (N := some 26) (v := ?_) (a' := ?_) #[true, true, true, false, false, false, false, false, false, false, false, false, false] rfl rfl (by kernel_rfl) (fun _ _ _ h => h) (Or.inl ⟨by rfl, ?_⟩) ?_ ?_
  rotate_left
  · intro w'
    go_simp
    with_reducible rfl
  rotate_left
  · simp only [Act.put, List.setIfInBounds_toArray, List.set_cons_zero, List.set_cons_succ, i64_w, i32_w]
    rfl
  refine pure_ (i := 4) (N := some 28) (v := ?_) (a' := ?_) #[true, true, true, false, true, false, false, false, false, false, false, false, false] rfl rfl (by kernel_rfl) (fun _ _ _ h => h) (Or.inl ⟨by rfl, ?_⟩) ?_ ?_
  rotate_left
  · intro w'
    go_simp
    with_reducible rfl
  rotate_left
  · simp only [Act.put, List.setIfInBounds_toArray, List.set_cons_zero, List.set_cons_succ, i64_w, i32_w]
    rfl
  refine pure_ (i := 5) (N := some 29) (v := ?_) (a' := ?_) #[true, true, true, false, true, true, false, false, false, false, false, false, false] rfl rfl (by kernel_rfl) (fun _ _ _ h => h) (Or.inl ⟨by rfl, ?_⟩) ?_ ?_
  rotate_left
  · intro w'
    go_simp
    with_reducible rfl
  rotate_left
  · simp only [Act.put, List.setIfInBounds_toArray, List.set_cons_zero, List.set_cons_succ, i64_w, i32_w]
    rfl
  refine pure_ (i := 6) (N := some 30) (v := ?_) (a' := ?_) #[true, true, true, false, true, true, true, false, false, false, false, false, false] rfl rfl (by kernel_rfl) (fun _ _ _ h => h) (Or.inl ⟨by rfl, ?_⟩) ?_ ?_
  rotate_left
  · intro w'
    go_simp
    with_reducible rfl
  rotate_left
  · simp only [Act.put, List.setIfInBounds_toArray, List.set_cons_zero, List.set_cons_succ, i64_w, i32_w]
    rfl
  refine pure_ (i := 7) (N := some 31) (v := ?_) (a' := ?_) #[true, true, true, false, true, true, true, true, false, false, false, false, false] rfl rfl (by kernel_rfl) (fun _ _ _ h => h) (Or.inl ⟨by rfl, ?_⟩) ?_ ?_
  rotate_left
  · intro w'
    go_simp
    with_reducible rfl
  rotate_left
  · simp only [Act.put, List.setIfInBounds_toArray, List.set_cons_zero, List.set_cons_succ, i64_w, i32_w]
    rfl
  refine take_ (i := 3) (N := some 27) (v := ?_) (a' := ?_) #[true, true, true, true, true, true, true, true, false, false, false, false, false] rfl rfl (by kernel_rfl) (fun _ _ _ h => h) (Or.inl ⟨by rfl, ?_⟩) hHeld ?_ ?_
  rotate_left
  · rintro w' ⟨s0, s1, s2, s3⟩
    go_simp
    with_reducible rfl
  rotate_left
  · simp only [Act.put, List.setIfInBounds_toArray, List.set_cons_zero, List.set_cons_succ, i64_w, i32_w]
    rfl
  refine take_ (i := 8) (N := some 32) (v := ?_) (a' := ?_) #[true, true, true, true, true, true, true, true, true, false, false, false, false] rfl rfl (by kernel_rfl) (fun _ _ _ h => h) (Or.inl ⟨by rfl, ?_⟩) hHeld ?_ ?_
  rotate_left
  · rintro w' ⟨s0, s1, s2, s3⟩
    go_simp
    with_reducible rfl
  rotate_left
  · simp only [Act.put, List.setIfInBounds_toArray, List.set_cons_zero, List.set_cons_succ, i64_w, i32_w]
    rfl
  refine pure_ (i := 9) (N := some 33) (v := ?_) (a' := ?_) #[true, true, true, true, true, true, true, true, true, true, false, false, false] rfl rfl (by kernel_rfl) (fun _ _ _ h => h) (Or.inl ⟨by rfl, ?_⟩) ?_ ?_
  rotate_left
  · intro w'
    go_simp
    with_reducible rfl
  rotate_left
  · simp only [Act.put, List.setIfInBounds_toArray, List.set_cons_zero, List.set_cons_succ, i64_w, i32_w]
    rfl
  refine take_ (i := 10) (N := some 34) (v := ?_) (a' := ?_) #[true, true, true, true, true, true, true, true, true, true, true, false, false] rfl rfl (by kernel_rfl) (fun _ _ _ h => h) (Or.inl ⟨by rfl, ?_⟩) hHeld ?_ ?_
  rotate_left
  · rintro w' ⟨s0, s1, s2, s3⟩
    go_simp
    with_reducible rfl
  rotate_left
  · simp only [Act.put, List.setIfInBounds_toArray, List.set_cons_zero, List.set_cons_succ, i64_w, i32_w]
    rfl
  refine one_ (i := 11) (N := some 4) #[true, true, true, true, true, true, true, true, true, true, true, true, false] rfl rfl (by kernel_rfl) (by decide) (fun K hK => ?_)
  refine value_ (w1 := ?_) (v := ?_) (by rfl) rfl ?_ ?_
  rotate_left 2
  · go_simp
    constructor
    · rfl
    · rfl
  have hb3 : Below W1.heap.size W1 ((W1.drewN (nq + 1)).alloc (.cells #[.int .i64 0, .int .i64 0] 27)) := below_alloc (w := W1) (pw_below_drewN (Below.refl W1.heap.size W1) (nq + 1)) _
  have hn3 : ((W1.drewN (nq + 1)).alloc (.cells #[.int .i64 0, .int .i64 0] 27)).heap[W.heap.size + 2]? = some (.cells #[.int .i64 0, .int .i64 0] 27 (0, 0)) := by rw [← hz1]; exact heap_alloc_new (W1.drewN (nq + 1)) _
  generalize (W1.drewN (nq + 1)).alloc (.cells #[.int .i64 0, .int .i64 0] 27) = w3 at *
  have HB3 := Aside0.mk hb3
  have i0 := blk_cell hn3 0
  have i1 := blk_cell hn3 1
  have j0 := blk_frozen hn3 0
  have j1 := blk_frozen hn3 1
  have hs4 := HSE.out w3 hb3 hn3
  clear hb3 hn3
  have HS4 := Aside0.mk hs4
  clear hs4
  refine hK.out _ _ ⟨(HB3.out.cell (p := ⟨g, 0, none⟩) HGL.out).trans c0, (HB3.out.cell (p := ⟨g, 1, none⟩) HGL.out).trans c1, (HB3.out.cell (p := ⟨b, o + s.pc.toNat * 2, none⟩) HG.out).trans x0, (HB3.out.cell (p := ⟨b, o + s.pc.toNat * 2 + 1, none⟩) HG.out).trans x1⟩ (fun hHeld => ?_)
  clear hK K
  refine norm_ (a' := ?_) ?_ ?_
  rotate_left
  · show Act.put _ (some 4) _ = _
    simp only [Act.put, List.setIfInBounds_toArray, List.set_cons_zero, List.set_cons_succ, i64_w, i32_w]
    rfl
  refine last_ (i := 12) (N := none) #[true, true, true, true, true, true, true, true, true, true, true, true, true] rfl rfl (by kernel_rfl) (by decide) (fun K hK => ?_)
  refine skip_ (w1 := ?_) (by rfl) rfl ?_ ?_
  rotate_left
  · go_simp
    rfl
  refine hK.out _ _ ?_
  clear hK K
  refine done_ (by kernel_rfl) ?_

  have HS4' : Aside0 _ := HS4
  clear HS4
  generalize (w3.setCell ⟨W.heap.size + 2, 0, none⟩ (.int .i64 22)).setCell ⟨W.heap.size + 2, 1, none⟩ (.int .i64 a) = w4 at *
  have HS4 := HS4'
  clear HS4' c0 c1 x0 x1 i0 i1 j0 j1 HSE hHeld HB3
  obtain ⟨c0, c1, c2, c3, c4, g1, g3⟩ := HS4.out.cells; obtain ⟨b0, b1, b2, h0, h1, h2, l0, l1, l2, i0, i1⟩ := HS4.out.boxes
  have tx : ((s.ca.length : Int) == 32) = false := by simp; omega
  clear hx
  go_wp2_with (first
    | (go_at_call 62; (with_reducible refine (has_calls _ g B s.st.length d 22 a c2 HL.out.1).mono ?_); rintro e w5 ⟨he, hb5⟩; rw [HH.out] at he; subst he; have HS5 := Aside0.mk (HS4.out.step hb5); clear hb5 c0 c1 c2 c3 c4 g1 g3 b0 b1 b2 h0 h1 h2 l0 l1 l2 i0 i1; obtain ⟨c0, c1, c2, c3, c4, g1, g3⟩ := HS5.out.cells; obtain ⟨b0, b1, b2, h0, h1, h2, l0, l1, l2, i0, i1⟩ := HS5.out.boxes)
    | (at_builtin; refine HS5.out.appc HFL.out HL.out.2 _ rfl _ _ rfl rfl rfl ?_; intro E6 c6 w6 hx6 q3 q4 hq; have HS6 := Aside0.mk hx6; clear hx6; clear c0 c1 c2 c3 c4 g1 g3 b0 b1 b2 h0 h1 h2 l0 l1 l2 i0 i1; obtain ⟨b0, b1, b2, h0, h1, h2, i0, i1, g1, c1⟩ := hq))
  have HF := HS6.out.pc HFL.out (a)
  have hz := blk_set (blk_set (blk_set HF.res 0 (.int .i64 0)) 1 (.int .i64 0)) 2 (.int .i64 0)
  have e0 := (blk_cell hz 0).trans (show _ = some (Value.int .i64 0) from rfl)
  have e1 := (blk_cell hz 1).trans (show _ = some (Value.int .i64 0) from rfl)
  have e2 := (blk_cell hz 2).trans (show _ = some (Value.int .i64 0) from rfl)
  exact bodyPost_ret (v := .agg #[.int .i64 0, .int .i64 0, .int .i64 0]) (by simp [results, Try.results54, go_sem, e0, e1, e2]) rfl (HF.told 0 0 0 HFL.out HR.out rfl)
end Go.Proofs.Ytkjdhhdkfbkgpaa.VmW
