/- The machine's step: store, two numbers; no room; the end. -/
import Derived.Test.YtkjdhhdkfbkgpaaVmMA
namespace Go.Proofs.Ytkjdhhdkfbkgpaa.VmW
open Go.RowKit Go.Proofs.YtkjdhhdkfbkgpaaW.PrintWords Go.Proofs.YtkjdhhdkfbkgpaaW.PrintMore Go.Proofs.YtkjdhhdkfbkgpaaW.PrintLast Go.Proofs.Ytkjdhhdkfbkgpaa.Pvm
set_option linter.unusedVariables false
set_option linter.unusedSimpArgs false
set_option maxHeartbeats 8000000 in
set_option maxRecDepth 100000 in
theorem step_storeno (W : World) (base g : Nat) (Ac : Option Addr) (cc : Nat) (code : List In) (p : Value) (f : Nat → Prop) (v1 v2 : Value) (s : St) (m : Mem) (h : Mach W base g Ac cc code p f v1 v2 s m) (hbase : base ≤ W.heap.size) (hs : mayP s code.length) (hlt : s.pc < (code.length : Int)) (hlen : code.length ≤ 1024) (a : Int) (m' : Mem) (hx : memK.store m (lastP s.st 0) (lastP s.st 1 % 256) = (m', false)) (hop : inAt code s.pc = ⟨19, a⟩) (hh : hasP 19 a s.st.length = true) : Calls Try.prog 54 #[.pointer (some ⟨g, 0, none⟩)] W (StepPost W base g Ac cc code p f v1 v2 (stepP memK code s m)) := by
  have HH := Aside0.mk hh
  have HT := Aside0.mk (show 2 ≤ s.st.length from by unfold hasP at hh; simp at hh; omega)
  have HR := Aside0.mk (show stepP memK code s m = (s, m', 4, 0) from by unfold stepP; rw [if_neg (by omega), hop, if_neg (by rw [hh]; simp)]; simp [opP, cutP_zero, *])
  clear hh
  obtain ⟨hp0, hp1, hl, hcl, _⟩ := hs
  have hfl := h.mem.lt
  obtain ⟨B, d, rfl⟩ : ∃ B d, v1 = .slice B s.st.length d := own_slice h.stk
  obtain ⟨E, c, rfl⟩ : ∃ E c, v2 = .slice E s.ca.length c := own_slice h.cal
  have HFL := Aside0.mk (show ∀ k, f k → k < W.heap.size ∨ W.heap.size + 3 ≤ k from fun k hk => .inl (hfl k hk))

  obtain ⟨b, o, rfl, hbw, hcell⟩ := code_at h.cde (by omega)
  obtain ⟨x0, x1⟩ := hcell s.pc.toNat (by omega)
  rw [Int.toNat_of_nonneg hp0, hop] at x0 x1
  generalize hW : ((W.alloc (.cells #[.int .i64 0, .int .i64 0, .int .i64 0] 53)).alloc (.cells #[.int .i64 4, .int .i64 0, .int .i64 0] 53)) = W1 at *
  have hb1 := below_alloc (below_alloc (Below.refl W.heap.size W) (.cells #[.int .i64 0, .int .i64 0, .int .i64 0] 53)) (.cells #[.int .i64 4, .int .i64 0, .int .i64 0] 53)
  rw [hW] at hb1
  have hz1 : W1.heap.size = W.heap.size + 2 := by rw [← hW]; simp
  have y0 : W1.heap[W.heap.size]? = some (.cells #[.int .i64 0, .int .i64 0, .int .i64 0] 53 (0, 0)) := by
    rw [← hW]; exact (heap_alloc_old _ _ (by simp)).trans (heap_alloc_new W _)
  have y1 : W1.heap[W.heap.size + 1]? = some (.cells #[.int .i64 4, .int .i64 0, .int .i64 0] 53 (0, 0)) := by
    rw [← hW]
    have := heap_alloc_new (W.alloc (.cells #[.int .i64 0, .int .i64 0, .int .i64 0] 53)) (.cells #[.int .i64 4, .int .i64 0, .int .i64 0] 53)
    simpa using this
  have hm1 := h.step hb1
  have c0 : W1.cell? ⟨g, 0, none⟩ = some (.slice (some ⟨b, o, none⟩) code.length cc) := blk_cell hm1.box 0
  have c1 : W1.cell? ⟨g, 1, none⟩ = some (.int .i64 s.pc) := blk_cell hm1.box 1
  replace x0 := (hb1.cell (p := ⟨b, o + s.pc.toNat * 2, none⟩) hbw).trans x0
  replace x1 := (hb1.cell (p := ⟨b, o + s.pc.toNat * 2 + 1, none⟩) hbw).trans x1
  have t0 : (s.pc == (code.length : Int)) = false := by simp; omega
  have e1 : wrap64 (s.pc + 1) = s.pc + 1 := by unfold wrap64; omega
  have n0 : (W.heap.size = g) = False := eq_false (by have := h.gl; omega)
  have n1 : (g = W.heap.size) = False := eq_false (by have := h.gl; omega)
  have n2 : (W.heap.size + 2 = g) = False := eq_false (by have := h.gl; omega)
  have n3 : (g = W.heap.size + 2) = False := eq_false (by have := h.gl; omega)
  have HSE := Aside0.mk (fun (w3 : World) (hb : Below W1.heap.size W1 w3) hn => SE.init h hbase hb1 hz1 y0 y1 hb (w3 := w3) hn 19 a)
  have HW := Aside0.mk hW
  have HM1 := Aside0.mk hm1
  have HZ := Aside0.mk hz1
  have HG := Aside0.mk (show b < W1.heap.size from Nat.lt_of_lt_of_le hbw hb1.size)
  have HGL := Aside0.mk hm1.gl
  have k0 : (0 : Int) ≤ s.pc := hp0
  have k1 : s.pc < (code.length : Int) := hlt
  have HL := Aside0.mk (And.intro hl hcl)
  have h_cal := h.cal
  have h_mem := h.mem
  clear h hbase hfl hcell hW hb1 y0 y1 hm1 hp0 hp1 hlt hl hcl
  go_enter Try.func54, Try.ntmps54
  go_wp2
  rw [HW.out]
  go_quiet (fail)
  go_wp2
  refine start_ (n := 13) (S := fun w' => w'.cell? ⟨g, 0, none⟩ = some (.slice (some ⟨b, o, none⟩) code.length cc) ∧ w'.cell? ⟨g, 1, none⟩ = some (.int .i64 s.pc) ∧ w'.cell? ⟨b, o + s.pc.toNat * 2, none⟩ = some (.int .i64 19) ∧ w'.cell? ⟨b, o + s.pc.toNat * 2 + 1, none⟩ = some (.int .i64 a)) (ds := [12]) #[false, false, false, false, false, false, false, false, false, false, false, false, false] (by kernel_rfl) rfl rfl ⟨c0, c1, x0, x1⟩ (fun hHeld => ?_)
  refine pure_ (i := 0) (N := some 24) (v := ?_) (a' := ?_) #[true, false, false, false, false, false, false, false, false, false, false, false, false] rfl rfl (by kernel_rfl) (fun _ _ _ h => h) (Or.inl ⟨by rfl, ?_⟩) ?_ ?_
  rotate_left
  · intro w'
    go_simp
    with_reducible rfl
  rotate_left
  · simp only [Act.put, List.setIfInBounds_toArray, List.set_cons_zero, List.set_cons_succ, i64_w, i32_w]
    rfl
  refine pure_ (i := 1) (N := some 25) (v := ?_) (a' := ?_) #[true, true, false, false, false, false, false, false, false, false, false, false, false] rfl rfl (by kernel_rfl) (fun _ _ _ h => h) (Or.inl ⟨by rfl, ?_⟩) ?_ ?_
  rotate_left
  · intro w'
    go_simp
    with_reducible rfl
  rotate_left
  · simp only [Act.put, List.setIfInBounds_toArray, List.set_cons_zero, List.set_cons_succ, i64_w, i32_w]
    rfl
  refine pure_ (i := 2) (N := some 26) (v := ?_) (a' := ?_) #[true, true, true, false, false, false, false, false, false, false, false, false, false] rfl rfl (by kernel_rfl) (fun _ _ _ h => h) (Or.inl ⟨by rfl, ?_⟩) ?_ ?_
  rotate_left
  · intro w'
    go_simp
    with_reducible rfl
  rotate_left
  · simp only [Act.put, List.setIfInBounds_toArray, List.set_cons_zero, List.set_cons_succ, i64_w, i32_w]
    rfl
  refine pure_ (i := 4) (N := some 28) (v := ?_) (a' := ?_) #[true, true, true, false, true, false, false, false, false, false, false, false, false] rfl rfl (by kernel_rfl) (fun _ _ _ h => h) (Or.inl ⟨by rfl, ?_⟩) ?_ ?_
  rotate_left
  · intro w'
    go_simp
    with_reducible rfl
  rotate_left
  · simp only [Act.put, List.setIfInBounds_toArray, List.set_cons_zero, List.set_cons_succ, i64_w, i32_w]
    rfl
  refine pure_ (i := 5) (N := some 29) (v := ?_) (a' := ?_) #[true, true, true, false, true, true, false, false, false, false, false, false, false] rfl rfl (by kernel_rfl) (fun _ _ _ h => h) (Or.inl ⟨by rfl, ?_⟩) ?_ ?_
  rotate_left
  · intro w'
    go_simp
    with_reducible rfl
  rotate_left
  · simp only [Act.put, List.setIfInBounds_toArray, List.set_cons_zero, List.set_cons_succ, i64_w, i32_w]
    rfl
  refine pure_ (i := 6) (N := some 30) (v := ?_) (a' := ?_) #[true, true, true, false, true, true, true, false, false, false, false, false, false] rfl rfl (by kernel_rfl) (fun _ _ _ h => h) (Or.inl ⟨by rfl, ?_⟩) ?_ ?_
  rotate_left
  · intro w'
    go_simp
    with_reducible rfl
  rotate_left
  · simp only [Act.put, List.setIfInBounds_toArray, List.set_cons_zero, List.set_cons_succ, i64_w, i32_w]
    rfl
  refine pure_ (i := 7) (N := some 31) (v := ?_) (a' := ?_) #[true, true, true, false, true, true, true, true, false, false, false, false, false] rfl rfl (by kernel_rfl) (fun _ _ _ h => h) (Or.inl ⟨by rfl, ?_⟩) ?_ ?_
  rotate_left
  · intro w'
    go_simp
    with_reducible rfl
  rotate_left
  · simp only [Act.put, List.setIfInBounds_toArray, List.set_cons_zero, List.set_cons_succ, i64_w, i32_w]
    rfl
  refine take_ (i := 3) (N := some 27) (v := ?_) (a' := ?_) #[true, true, true, true, true, true, true, true, false, false, false, false, false] rfl rfl (by kernel_rfl) (fun _ _ _ h => h) (Or.inl ⟨by rfl, ?_⟩) hHeld ?_ ?_
  rotate_left
  · rintro w' ⟨s0, s1, s2, s3⟩
    go_simp
    with_reducible rfl
  rotate_left
  · simp only [Act.put, List.setIfInBounds_toArray, List.set_cons_zero, List.set_cons_succ, i64_w, i32_w]
    rfl
  refine take_ (i := 8) (N := some 32) (v := ?_) (a' := ?_) #[true, true, true, true, true, true, true, true, true, false, false, false, false] rfl rfl (by kernel_rfl) (fun _ _ _ h => h) (Or.inl ⟨by rfl, ?_⟩) hHeld ?_ ?_
  rotate_left
  · rintro w' ⟨s0, s1, s2, s3⟩
    go_simp
    with_reducible rfl
  rotate_left
  · simp only [Act.put, List.setIfInBounds_toArray, List.set_cons_zero, List.set_cons_succ, i64_w, i32_w]
    rfl
  refine pure_ (i := 9) (N := some 33) (v := ?_) (a' := ?_) #[true, true, true, true, true, true, true, true, true, true, false, false, false] rfl rfl (by kernel_rfl) (fun _ _ _ h => h) (Or.inl ⟨by rfl, ?_⟩) ?_ ?_
  rotate_left
  · intro w'
    go_simp
    with_reducible rfl
  rotate_left
  · simp only [Act.put, List.setIfInBounds_toArray, List.set_cons_zero, List.set_cons_succ, i64_w, i32_w]
    rfl
  refine take_ (i := 10) (N := some 34) (v := ?_) (a' := ?_) #[true, true, true, true, true, true, true, true, true, true, true, false, false] rfl rfl (by kernel_rfl) (fun _ _ _ h => h) (Or.inl ⟨by rfl, ?_⟩) hHeld ?_ ?_
  rotate_left
  · rintro w' ⟨s0, s1, s2, s3⟩
    go_simp
    with_reducible rfl
  rotate_left
  · simp only [Act.put, List.setIfInBounds_toArray, List.set_cons_zero, List.set_cons_succ, i64_w, i32_w]
    rfl
  refine one_ (i := 11) (N := some 4) #[true, true, true, true, true, true, true, true, true, true, true, true, false] rfl rfl (by kernel_rfl) (by decide) (fun K hK => ?_)
  refine value_ (w1 := ?_) (v := ?_) (by rfl) rfl ?_ ?_
  rotate_left 2
  · go_simp
    constructor
    · rfl
    · rfl
  have hb3 : Below W1.heap.size W1 ((W1.drewN (nq + 1)).alloc (.cells #[.int .i64 0, .int .i64 0] 27)) := below_alloc (w := W1) (pw_below_drewN (Below.refl W1.heap.size W1) (nq + 1)) _
  have hn3 : ((W1.drewN (nq + 1)).alloc (.cells #[.int .i64 0, .int .i64 0] 27)).heap[W.heap.size + 2]? = some (.cells #[.int .i64 0, .int .i64 0] 27 (0, 0)) := by rw [← hz1]; exact heap_alloc_new (W1.drewN (nq + 1)) _
  generalize (W1.drewN (nq + 1)).alloc (.cells #[.int .i64 0, .int .i64 0] 27) = w3 at *
  have HB3 := Aside0.mk hb3
  have i0 := blk_cell hn3 0
  have i1 := blk_cell hn3 1
  have j0 := blk_frozen hn3 0
  have j1 := blk_frozen hn3 1
  have hs4 := HSE.out w3 hb3 hn3
  clear hb3 hn3
  have HS4 := Aside0.mk hs4
  clear hs4
  refine hK.out _ _ ⟨(HB3.out.cell (p := ⟨g, 0, none⟩) HGL.out).trans c0, (HB3.out.cell (p := ⟨g, 1, none⟩) HGL.out).trans c1, (HB3.out.cell (p := ⟨b, o + s.pc.toNat * 2, none⟩) HG.out).trans x0, (HB3.out.cell (p := ⟨b, o + s.pc.toNat * 2 + 1, none⟩) HG.out).trans x1⟩ (fun hHeld => ?_)
  clear hK K
  refine norm_ (a' := ?_) ?_ ?_
  rotate_left
  · show Act.put _ (some 4) _ = _
    simp only [Act.put, List.setIfInBounds_toArray, List.set_cons_zero, List.set_cons_succ, i64_w, i32_w]
    rfl
  refine last_ (i := 12) (N := none) #[true, true, true, true, true, true, true, true, true, true, true, true, true] rfl rfl (by kernel_rfl) (by decide) (fun K hK => ?_)
  refine skip_ (w1 := ?_) (by rfl) rfl ?_ ?_
  rotate_left
  · go_simp
    rfl
  refine hK.out _ _ ?_
  clear hK K
  refine done_ (by kernel_rfl) ?_

  have HS4' : Aside0 _ := HS4
  clear HS4
  generalize (w3.setCell ⟨W.heap.size + 2, 0, none⟩ (.int .i64 19)).setCell ⟨W.heap.size + 2, 1, none⟩ (.int .i64 a) = w4 at *
  have HS4 := HS4'
  clear HS4' c0 c1 x0 x1 i0 i1 j0 j1 HSE hHeld HB3
  obtain ⟨c0, c1, c2, c3, c4, g1, g3⟩ := HS4.out.cells; obtain ⟨b0, b1, b2, h0, h1, h2, l0, l1, l2, i0, i1⟩ := HS4.out.boxes
  obtain ⟨ad, rfl⟩ := h_mem.ptr
  have HX := Aside0.mk hx
  clear hx h_mem
  go_wp2_with (first
    | (go_at_call 62; (with_reducible refine (has_calls _ g B s.st.length d 19 a c2 HL.out.1).mono ?_); rintro e w5 ⟨he, hb5⟩; rw [HH.out] at he; subst he; have HS5 := Aside0.mk (HS4.out.step hb5); clear hb5 c0 c1 c2 c3 c4 g1 g3 b0 b1 b2 h0 h1 h2 l0 l1 l2 i0 i1; obtain ⟨c0, c1, c2, c3, c4, g1, g3⟩ := HS5.out.cells; obtain ⟨b0, b1, b2, h0, h1, h2, l0, l1, l2, i0, i1⟩ := HS5.out.boxes))
  refine start_ (n := 13) (S := fun w' => w'.cell? ⟨g, 4, none⟩ = some (.iface 94 (.pointer (some ad)))) (ds := []) #[false, false, false, false, false, false, false, false, false, false, false, false, false] (by kernel_rfl) rfl rfl (c4) (fun hHeld => ?_)
  refine pure_ (i := 0) (N := some 127) (v := ?_) (a' := ?_) #[true, false, false, false, false, false, false, false, false, false, false, false, false] rfl rfl (by kernel_rfl) (fun _ _ _ h => h) (Or.inl ⟨by rfl, ?_⟩) ?_ ?_
  rotate_left
  · intro w'
    go_simp
    with_reducible rfl
  rotate_left
  · simp only [Act.put, List.setIfInBounds_toArray, List.set_cons_zero, List.set_cons_succ, i64_w, i32_w]
    rfl
  refine pure_ (i := 1) (N := some 128) (v := ?_) (a' := ?_) #[true, true, false, false, false, false, false, false, false, false, false, false, false] rfl rfl (by kernel_rfl) (fun _ _ _ h => h) (Or.inl ⟨by rfl, ?_⟩) ?_ ?_
  rotate_left
  · intro w'
    go_simp
    with_reducible rfl
  rotate_left
  · simp only [Act.put, List.setIfInBounds_toArray, List.set_cons_zero, List.set_cons_succ, i64_w, i32_w]
    rfl
  refine pure_ (i := 2) (N := some 129) (v := ?_) (a' := ?_) #[true, true, true, false, false, false, false, false, false, false, false, false, false] rfl rfl (by kernel_rfl) (fun _ _ _ h => h) (Or.inl ⟨by rfl, ?_⟩) ?_ ?_
  rotate_left
  · intro w'
    go_simp
    with_reducible rfl
  rotate_left
  · simp only [Act.put, List.setIfInBounds_toArray, List.set_cons_zero, List.set_cons_succ, i64_w, i32_w]
    rfl
  refine pure_ (i := 4) (N := some 131) (v := ?_) (a' := ?_) #[true, true, true, false, true, false, false, false, false, false, false, false, false] rfl rfl (by kernel_rfl) (fun _ _ _ h => h) (Or.inl ⟨by rfl, ?_⟩) ?_ ?_
  rotate_left
  · intro w'
    go_simp
    with_reducible rfl
  rotate_left
  · simp only [Act.put, List.setIfInBounds_toArray, List.set_cons_zero, List.set_cons_succ, i64_w, i32_w]
    rfl
  refine pure_ (i := 6) (N := some 133) (v := ?_) (a' := ?_) #[true, true, true, false, true, false, true, false, false, false, false, false, false] rfl rfl (by kernel_rfl) (fun _ _ _ h => h) (Or.inl ⟨by rfl, ?_⟩) ?_ ?_
  rotate_left
  · intro w'
    go_simp
    with_reducible rfl
  rotate_left
  · simp only [Act.put, List.setIfInBounds_toArray, List.set_cons_zero, List.set_cons_succ, i64_w, i32_w]
    rfl
  refine take_ (i := 3) (N := some 130) (v := ?_) (a' := ?_) #[true, true, true, true, true, false, true, false, false, false, false, false, false] rfl rfl (by kernel_rfl) (fun _ _ _ h => h) (Or.inl ⟨by rfl, ?_⟩) hHeld ?_ ?_
  rotate_left
  · intro w' s0
    go_simp
    with_reducible rfl
  rotate_left
  · simp only [Act.put, List.setIfInBounds_toArray, List.set_cons_zero, List.set_cons_succ, i64_w, i32_w]
    rfl
  refine pure_ (i := 9) (N := some 136) (v := ?_) (a' := ?_) #[true, true, true, true, true, false, true, false, false, true, false, false, false] rfl rfl (by kernel_rfl) (fun _ _ _ h => h) (Or.inl ⟨by rfl, ?_⟩) ?_ ?_
  rotate_left
  · intro w'
    go_simp
    with_reducible rfl
  rotate_left
  · simp only [Act.put, List.setIfInBounds_toArray, List.set_cons_zero, List.set_cons_succ, i64_w, i32_w]
    rfl
  refine pure_ (i := 10) (N := some 137) (v := ?_) (a' := ?_) #[true, true, true, true, true, false, true, false, false, true, true, false, false] rfl rfl (by kernel_rfl) (fun _ _ _ h => h) (Or.inl ⟨by rfl, ?_⟩) ?_ ?_
  rotate_left
  · intro w'
    go_simp
    with_reducible rfl
  rotate_left
  · simp only [Act.put, List.setIfInBounds_toArray, List.set_cons_zero, List.set_cons_succ, i64_w, i32_w]
    rfl
  refine one_ (i := 5) (N := some 132) #[true, true, true, true, true, true, true, false, false, true, true, false, false] rfl rfl (by kernel_rfl) (by decide) (fun K hK => ?_)
  refine goes_ Try.func64 (by kernel_rfl) rfl #[.pointer (some ⟨g, 0, none⟩), .int .i64 0] (by rfl) rfl rfl (by simp only [List.map_toArray, List.map_cons, List.map_nil]; rfl) ?_
  with_reducible refine (SE.lastc (HS5.out.step (below_drew (Below.refl _ _))) HL.out.1 0 0 rfl (by have := HT.out; omega)).mono ?_
  rintro e w6 ⟨rfl, hs6⟩
  refine ⟨_, rfl, ?_⟩
  have HS6 := Aside0.mk hs6
  clear hs6
  clear c0 c1 c2 c3 c4 g1 g3 b0 b1 b2 h0 h1 h2 l0 l1 l2 i0 i1
  obtain ⟨c0, c1, c2, c3, c4, g1, g3⟩ := HS6.out.cells; obtain ⟨b0, b1, b2, h0, h1, h2, l0, l1, l2, i0, i1⟩ := HS6.out.boxes
  refine hK.out _ _ (c4) (fun hHeld => ?_)
  clear hK K
  refine norm_ (a' := ?_) ?_ ?_
  rotate_left
  · show Act.put _ (some 132) _ = _
    simp only [Act.put, List.setIfInBounds_toArray, List.set_cons_zero, List.set_cons_succ, i64_w, i32_w]
    rfl
  refine one_ (i := 7) (N := some 134) #[true, true, true, true, true, true, true, true, false, true, true, false, false] rfl rfl (by kernel_rfl) (by decide) (fun K hK => ?_)
  refine goes_ Try.func64 (by kernel_rfl) rfl #[.pointer (some ⟨g, 0, none⟩), .int .i64 1] (by rfl) rfl rfl (by simp only [List.map_toArray, List.map_cons, List.map_nil]; rfl) ?_
  with_reducible refine (SE.lastc HS6.out HL.out.1 1 1 rfl (by have := HT.out; omega)).mono ?_
  rintro e w7 ⟨rfl, hs7⟩
  refine ⟨_, rfl, ?_⟩
  have HS7 := Aside0.mk hs7
  clear hs7
  clear c0 c1 c2 c3 c4 g1 g3 b0 b1 b2 h0 h1 h2 l0 l1 l2 i0 i1
  obtain ⟨c0, c1, c2, c3, c4, g1, g3⟩ := HS7.out.cells; obtain ⟨b0, b1, b2, h0, h1, h2, l0, l1, l2, i0, i1⟩ := HS7.out.boxes
  refine hK.out _ _ (c4) (fun hHeld => ?_)
  clear hK K
  refine norm_ (a' := ?_) ?_ ?_
  rotate_left
  · show Act.put _ (some 134) _ = _
    simp only [Act.put, List.setIfInBounds_toArray, List.set_cons_zero, List.set_cons_succ, i64_w, i32_w]
    rfl
  refine pure_ (i := 8) (N := some 135) (v := ?_) (a' := ?_) #[true, true, true, true, true, true, true, true, true, true, true, false, false] rfl rfl (by kernel_rfl) (fun _ _ _ h => h) (Or.inl ⟨by rfl, ?_⟩) ?_ ?_
  rotate_left
  · intro w'
    go_simp
    with_reducible rfl
  rotate_left
  · simp only [Act.put, List.setIfInBounds_toArray, List.set_cons_zero, List.set_cons_succ, i64_w, i32_w]
    rfl
  refine one_ (i := 11) (N := some 138) #[true, true, true, true, true, true, true, true, true, true, true, true, false] rfl rfl (by kernel_rfl) (by decide) (fun K hK => ?_)
  refine goesI_ Try.func31 (by kernel_rfl) rfl (method_store _) #[.int .i64 (lastP s.st 0), .int .u8 (lastP s.st 1 % 256)] (by rfl) rfl rfl (by rfl) (by simp only [List.map_toArray, List.map_cons, List.map_nil]; rfl) #[.pointer (some ad), .int .i64 (lastP s.st 0), .int .u8 (lastP s.st 1 % 256)] (by rfl) ?_
  with_reducible refine (HS7.out.storec HFL.out HX.out).mono ?_
  rintro e w8 ⟨f8, rfl, hs8, hf8⟩
  refine ⟨_, rfl, ?_⟩
  have HS8 := Aside0.mk hs8
  have HF8 := Aside0.mk hf8
  clear hs8 hf8
  clear c0 c1 c2 c3 c4 g1 g3 b0 b1 b2 h0 h1 h2 l0 l1 l2 i0 i1
  obtain ⟨c0, c1, c2, c3, c4, g1, g3⟩ := HS8.out.cells; obtain ⟨b0, b1, b2, h0, h1, h2, l0, l1, l2, i0, i1⟩ := HS8.out.boxes
  refine hK.out _ _ (c4) (fun hHeld => ?_)
  clear hK K
  refine norm_ (a' := ?_) ?_ ?_
  rotate_left
  · show Act.put _ (some 138) _ = _
    simp only [Act.put, List.setIfInBounds_toArray, List.set_cons_zero, List.set_cons_succ, i64_w, i32_w]
    rfl
  refine pure_ (i := 12) (N := some 139) (v := ?_) (a' := ?_) #[true, true, true, true, true, true, true, true, true, true, true, true, true] rfl rfl (by kernel_rfl) (fun _ _ _ h => h) (Or.inl ⟨by rfl, ?_⟩) ?_ ?_
  rotate_left
  · intro w'
    go_simp
    with_reducible rfl
  rotate_left
  · simp only [Act.put, List.setIfInBounds_toArray, List.set_cons_zero, List.set_cons_succ, i64_w, i32_w]
    rfl
  refine done_ (by kernel_rfl) ?_

  go_wp2
  have HF := HS8.out
  have hz := blk_set (blk_set (blk_set HF.res 0 (.int .i64 4)) 1 (.int .i64 0)) 2 (.int .i64 0)
  have e0 := (blk_cell hz 0).trans (show _ = some (Value.int .i64 4) from rfl)
  have e1 := (blk_cell hz 1).trans (show _ = some (Value.int .i64 0) from rfl)
  have e2 := (blk_cell hz 2).trans (show _ = some (Value.int .i64 0) from rfl)
  exact bodyPost_ret (v := .agg #[.int .i64 4, .int .i64 0, .int .i64 0]) (by simp [results, Try.results54, go_sem, e0, e1, e2]) rfl (HF.told 4 0 0 HF8.out HR.out rfl)
set_option maxHeartbeats 8000000 in
set_option maxRecDepth 100000 in
theorem step_store (W : World) (base g : Nat) (Ac : Option Addr) (cc : Nat) (code : List In) (p : Value) (f : Nat → Prop) (v1 v2 : Value) (s : St) (m : Mem) (h : Mach W base g Ac cc code p f v1 v2 s m) (hbase : base ≤ W.heap.size) (hs : mayP s code.length) (hlt : s.pc < (code.length : Int)) (hlen : code.length ≤ 1024) (a : Int) (m' : Mem) (hx : memK.store m (lastP s.st 0) (lastP s.st 1 % 256) = (m', true)) (hop : inAt code s.pc = ⟨19, a⟩) (hh : hasP 19 a s.st.length = true) : Calls Try.prog 54 #[.pointer (some ⟨g, 0, none⟩)] W (StepPost W base g Ac cc code p f v1 v2 (stepP memK code s m)) := by
  have HH := Aside0.mk hh
  have HT := Aside0.mk (show 2 ≤ s.st.length from by unfold hasP at hh; simp at hh; omega)
  have HR := Aside0.mk (show stepP memK code s m = (⟨s.pc + 1, cutP s.st 2 ++ [], s.ca⟩, m', 0, 0) from by unfold stepP; rw [if_neg (by omega), hop, if_neg (by rw [hh]; simp)]; simp [opP, cutP_zero, *])
  clear hh
  obtain ⟨hp0, hp1, hl, hcl, _⟩ := hs
  have hfl := h.mem.lt
  obtain ⟨B, d, rfl⟩ : ∃ B d, v1 = .slice B s.st.length d := own_slice h.stk
  obtain ⟨E, c, rfl⟩ : ∃ E c, v2 = .slice E s.ca.length c := own_slice h.cal
  have HFL := Aside0.mk (show ∀ k, f k → k < W.heap.size ∨ W.heap.size + 3 ≤ k from fun k hk => .inl (hfl k hk))

  obtain ⟨b, o, rfl, hbw, hcell⟩ := code_at h.cde (by omega)
  obtain ⟨x0, x1⟩ := hcell s.pc.toNat (by omega)
  rw [Int.toNat_of_nonneg hp0, hop] at x0 x1
  generalize hW : ((W.alloc (.cells #[.int .i64 0, .int .i64 0, .int .i64 0] 53)).alloc (.cells #[.int .i64 4, .int .i64 0, .int .i64 0] 53)) = W1 at *
  have hb1 := below_alloc (below_alloc (Below.refl W.heap.size W) (.cells #[.int .i64 0, .int .i64 0, .int .i64 0] 53)) (.cells #[.int .i64 4, .int .i64 0, .int .i64 0] 53)
  rw [hW] at hb1
  have hz1 : W1.heap.size = W.heap.size + 2 := by rw [← hW]; simp
  have y0 : W1.heap[W.heap.size]? = some (.cells #[.int .i64 0, .int .i64 0, .int .i64 0] 53 (0, 0)) := by
    rw [← hW]; exact (heap_alloc_old _ _ (by simp)).trans (heap_alloc_new W _)
  have y1 : W1.heap[W.heap.size + 1]? = some (.cells #[.int .i64 4, .int .i64 0, .int .i64 0] 53 (0, 0)) := by
    rw [← hW]
    have := heap_alloc_new (W.alloc (.cells #[.int .i64 0, .int .i64 0, .int .i64 0] 53)) (.cells #[.int .i64 4, .int .i64 0, .int .i64 0] 53)
    simpa using this
  have hm1 := h.step hb1
  have c0 : W1.cell? ⟨g, 0, none⟩ = some (.slice (some ⟨b, o, none⟩) code.length cc) := blk_cell hm1.box 0
  have c1 : W1.cell? ⟨g, 1, none⟩ = some (.int .i64 s.pc) := blk_cell hm1.box 1
  replace x0 := (hb1.cell (p := ⟨b, o + s.pc.toNat * 2, none⟩) hbw).trans x0
  replace x1 := (hb1.cell (p := ⟨b, o + s.pc.toNat * 2 + 1, none⟩) hbw).trans x1
  have t0 : (s.pc == (code.length : Int)) = false := by simp; omega
  have e1 : wrap64 (s.pc + 1) = s.pc + 1 := by unfold wrap64; omega
  have n0 : (W.heap.size = g) = False := eq_false (by have := h.gl; omega)
  have n1 : (g = W.heap.size) = False := eq_false (by have := h.gl; omega)
  have n2 : (W.heap.size + 2 = g) = False := eq_false (by have := h.gl; omega)
  have n3 : (g = W.heap.size + 2) = False := eq_false (by have := h.gl; omega)
  have HSE := Aside0.mk (fun (w3 : World) (hb : Below W1.heap.size W1 w3) hn => SE.init h hbase hb1 hz1 y0 y1 hb (w3 := w3) hn 19 a)
  have HW := Aside0.mk hW
  have HM1 := Aside0.mk hm1
  have HZ := Aside0.mk hz1
  have HG := Aside0.mk (show b < W1.heap.size from Nat.lt_of_lt_of_le hbw hb1.size)
  have HGL := Aside0.mk hm1.gl
  have k0 : (0 : Int) ≤ s.pc := hp0
  have k1 : s.pc < (code.length : Int) := hlt
  have HL := Aside0.mk (And.intro hl hcl)
  have h_cal := h.cal
  have h_mem := h.mem
  clear h hbase hfl hcell hW hb1 y0 y1 hm1 hp0 hp1 hlt hl hcl
  go_enter Try.func54, Try.ntmps54
  go_wp2
  rw [HW.out]
  go_quiet (fail)
  go_wp2
  refine start_ (n := 13) (S := fun w' => w'.cell? ⟨g, 0, none⟩ = some (.slice (some ⟨b, o, none⟩) code.length cc) ∧ w'.cell? ⟨g, 1, none⟩ = some (.int .i64 s.pc) ∧ w'.cell? ⟨b, o + s.pc.toNat * 2, none⟩ = some (.int .i64 19) ∧ w'.cell? ⟨b, o + s.pc.toNat * 2 + 1, none⟩ = some (.int .i64 a)) (ds := [12]) #[false, false, false, false, false, false, false, false, false, false, false, false, false] (by kernel_rfl) rfl rfl ⟨c0, c1, x0, x1⟩ (fun hHeld => ?_)
  refine pure_ (i := 0) (N := some 24) (v := ?_) (a' := ?_) #[true, false, false, false, false, false, false, false, false, false, false, false, false] rfl rfl (by kernel_rfl) (fun _ _ _ h => h) (Or.inl ⟨by rfl, ?_⟩) ?_ ?_
  rotate_left
  · intro w'
    go_simp
    with_reducible rfl
  rotate_left
  · simp only [Act.put, List.setIfInBounds_toArray, List.set_cons_zero, List.set_cons_succ, i64_w, i32_w]
    rfl
  refine pure_ (i := 1) (N := some 25) (v := ?_) (a' := ?_) #[true, true, false, false, false, false, false, false, false, false, false, false, false] rfl rfl (by kernel_rfl) (fun _ _ _ h => h) (Or.inl ⟨by rfl, ?_⟩) ?_ ?_
  rotate_left
  · intro w'
    go_simp
    with_reducible rfl
  rotate_left
  · simp only [Act.put, List.setIfInBounds_toArray, List.set_cons_zero, List.set_cons_succ, i64_w, i32_w]
    rfl
  refine pure_ (i := 2) (N := some 26) (v := ?_) (a' := ?_) #[true, true, true, false, false, false, false, false, false, false, false, false, false] rfl rfl (by kernel_rfl) (fun _ _ _ h => h) (Or.inl ⟨by rfl, ?_⟩) ?_ ?_
  rotate_left
  · intro w'
    go_simp
    with_reducible rfl
  rotate_left
  · simp only [Act.put, List.setIfInBounds_toArray, List.set_cons_zero, List.set_cons_succ, i64_w, i32_w]
    rfl
  refine pure_ (i := 4) (N := some 28) (v := ?_) (a' := ?_) #[true, true, true, false, true, false, false, false, false, false, false, false, false] rfl rfl (by kernel_rfl) (fun _ _ _ h => h) (Or.inl ⟨by rfl, ?_⟩) ?_ ?_
  rotate_left
  · intro w'
    go_simp
    with_reducible rfl
  rotate_left
  · simp only [Act.put, List.setIfInBounds_toArray, List.set_cons_zero, List.set_cons_succ, i64_w, i32_w]
    rfl
  refine pure_ (i := 5) (N := some 29) (v := ?_) (a' := ?_) #[true, true, true, false, true, true, false, false, false, false, false, false, false] rfl rfl (by kernel_rfl) (fun _ _ _ h => h) (Or.inl ⟨by rfl, ?_⟩) ?_ ?_
  rotate_left
  · intro w'
    go_simp
    with_reducible rfl
  rotate_left
  · simp only [Act.put, List.setIfInBounds_toArray, List.set_cons_zero, List.set_cons_succ, i64_w, i32_w]
    rfl
  refine pure_ (i := 6) (N := some 30) (v := ?_) (a' := ?_) #[true, true, true, false, true, true, true, false, false, false, false, false, false] rfl rfl (by kernel_rfl) (fun _ _ _ h => h) (Or.inl ⟨by rfl, ?_⟩) ?_ ?_
  rotate_left
  · intro w'
    go_simp
    with_reducible rfl
  rotate_left
  · simp only [Act.put, List.setIfInBounds_toArray, List.set_cons_zero, List.set_cons_succ, i64_w, i32_w]
    rfl
  refine pure_ (i := 7) (N := some 31) (v := ?_) (a' := ?_) #[true, true, true, false, true, true, true, true, false, false, false, false, false] rfl rfl (by kernel_rfl) (fun _ _ _ h => h) (Or.inl ⟨by rfl, ?_⟩) ?_ ?_
  rotate_left
  · intro w'
    go_simp
    with_reducible rfl
  rotate_left
  · simp only [Act.put, List.setIfInBounds_toArray, List.set_cons_zero, List.set_cons_succ, i64_w, i32_w]
    rfl
  refine take_ (i := 3) (N := some 27) (v := ?_) (a' := ?_) #[true, true, true, true, true, true, true, true, false, false, false, false, false] rfl rfl (by kernel_rfl) (fun _ _ _ h => h) (Or.inl ⟨by rfl, ?_⟩) hHeld ?_ ?_
  rotate_left
  · rintro w' ⟨s0, s1, s2, s3⟩
    go_simp
    with_reducible rfl
  rotate_left
  · simp only [Act.put, List.setIfInBounds_toArray, List.set_cons_zero, List.set_cons_succ, i64_w, i32_w]
    rfl
  refine take_ (i := 8) (N := some 32) (v := ?_) (a' := ?_) #[true, true, true, true, true, true, true, true, true, false, false, false, false] rfl rfl (by kernel_rfl) (fun _ _ _ h => h) (Or.inl ⟨by rfl, ?_⟩) hHeld ?_ ?_
  rotate_left
  · rintro w' ⟨s0, s1, s2, s3⟩
    go_simp
    with_reducible rfl
  rotate_left
  · simp only [Act.put, List.setIfInBounds_toArray, List.set_cons_zero, List.set_cons_succ, i64_w, i32_w]
    rfl
  refine pure_ (i := 9) (N := some 33) (v := ?_) (a' := ?_) #[true, true, true, true, true, true, true, true, true, true, false, false, false] rfl rfl (by kernel_rfl) (fun _ _ _ h => h) (Or.inl ⟨by rfl, ?_⟩) ?_ ?_
  rotate_left
  · intro w'
    go_simp
    with_reducible rfl
  rotate_left
  · simp only [Act.put, List.setIfInBounds_toArray, List.set_cons_zero, List.set_cons_succ, i64_w, i32_w]
    rfl
  refine take_ (i := 10) (N := some 34) (v := ?_) (a' := ?_) #[true, true, true, true, true, true, true, true, true, true, true, false, false] rfl rfl (by kernel_rfl) (fun _ _ _ h => h) (Or.inl ⟨by rfl, ?_⟩) hHeld ?_ ?_
  rotate_left
  · rintro w' ⟨s0, s1, s2, s3⟩
    go_simp
    with_reducible rfl
  rotate_left
  · simp only [Act.put, List.setIfInBounds_toArray, List.set_cons_zero, List.set_cons_succ, i64_w, i32_w]
    rfl
  refine one_ (i := 11) (N := some 4) #[true, true, true, true, true, true, true, true, true, true, true, true, false] rfl rfl (by kernel_rfl) (by decide) (fun K hK => ?_)
  refine value_ (w1 := ?_) (v := ?_) (by rfl) rfl ?_ ?_
  rotate_left 2
  · go_simp
    constructor
    · rfl
    · rfl
  have hb3 : Below W1.heap.size W1 ((W1.drewN (nq + 1)).alloc (.cells #[.int .i64 0, .int .i64 0] 27)) := below_alloc (w := W1) (pw_below_drewN (Below.refl W1.heap.size W1) (nq + 1)) _
  have hn3 : ((W1.drewN (nq + 1)).alloc (.cells #[.int .i64 0, .int .i64 0] 27)).heap[W.heap.size + 2]? = some (.cells #[.int .i64 0, .int .i64 0] 27 (0, 0)) := by rw [← hz1]; exact heap_alloc_new (W1.drewN (nq + 1)) _
  generalize (W1.drewN (nq + 1)).alloc (.cells #[.int .i64 0, .int .i64 0] 27) = w3 at *
  have HB3 := Aside0.mk hb3
  have i0 := blk_cell hn3 0
  have i1 := blk_cell hn3 1
  have j0 := blk_frozen hn3 0
  have j1 := blk_frozen hn3 1
  have hs4 := HSE.out w3 hb3 hn3
  clear hb3 hn3
  have HS4 := Aside0.mk hs4
  clear hs4
  refine hK.out _ _ ⟨(HB3.out.cell (p := ⟨g, 0, none⟩) HGL.out).trans c0, (HB3.out.cell (p := ⟨g, 1, none⟩) HGL.out).trans c1, (HB3.out.cell (p := ⟨b, o + s.pc.toNat * 2, none⟩) HG.out).trans x0, (HB3.out.cell (p := ⟨b, o + s.pc.toNat * 2 + 1, none⟩) HG.out).trans x1⟩ (fun hHeld => ?_)
  clear hK K
  refine norm_ (a' := ?_) ?_ ?_
  rotate_left
  · show Act.put _ (some 4) _ = _
    simp only [Act.put, List.setIfInBounds_toArray, List.set_cons_zero, List.set_cons_succ, i64_w, i32_w]
    rfl
  refine last_ (i := 12) (N := none) #[true, true, true, true, true, true, true, true, true, true, true, true, true] rfl rfl (by kernel_rfl) (by decide) (fun K hK => ?_)
  refine skip_ (w1 := ?_) (by rfl) rfl ?_ ?_
  rotate_left
  · go_simp
    rfl
  refine hK.out _ _ ?_
  clear hK K
  refine done_ (by kernel_rfl) ?_

  have HS4' : Aside0 _ := HS4
  clear HS4
  generalize (w3.setCell ⟨W.heap.size + 2, 0, none⟩ (.int .i64 19)).setCell ⟨W.heap.size + 2, 1, none⟩ (.int .i64 a) = w4 at *
  have HS4 := HS4'
  clear HS4' c0 c1 x0 x1 i0 i1 j0 j1 HSE hHeld HB3
  obtain ⟨c0, c1, c2, c3, c4, g1, g3⟩ := HS4.out.cells; obtain ⟨b0, b1, b2, h0, h1, h2, l0, l1, l2, i0, i1⟩ := HS4.out.boxes
  obtain ⟨ad, rfl⟩ := h_mem.ptr
  have HX := Aside0.mk hx
  clear hx h_mem
  go_wp2_with (first
    | (go_at_call 62; (with_reducible refine (has_calls _ g B s.st.length d 19 a c2 HL.out.1).mono ?_); rintro e w5 ⟨he, hb5⟩; rw [HH.out] at he; subst he; have HS5 := Aside0.mk (HS4.out.step hb5); clear hb5 c0 c1 c2 c3 c4 g1 g3 b0 b1 b2 h0 h1 h2 l0 l1 l2 i0 i1; obtain ⟨c0, c1, c2, c3, c4, g1, g3⟩ := HS5.out.cells; obtain ⟨b0, b1, b2, h0, h1, h2, l0, l1, l2, i0, i1⟩ := HS5.out.boxes))
  refine start_ (n := 13) (S := fun w' => w'.cell? ⟨g, 4, none⟩ = some (.iface 94 (.pointer (some ad)))) (ds := []) #[false, false, false, false, false, false, false, false, false, false, false, false, false] (by kernel_rfl) rfl rfl (c4) (fun hHeld => ?_)
  refine pure_ (i := 0) (N := some 127) (v := ?_) (a' := ?_) #[true, false, false, false, false, false, false, false, false, false, false, false, false] rfl rfl (by kernel_rfl) (fun _ _ _ h => h) (Or.inl ⟨by rfl, ?_⟩) ?_ ?_
  rotate_left
  · intro w'
    go_simp
    with_reducible rfl
  rotate_left
  · simp only [Act.put, List.setIfInBounds_toArray, List.set_cons_zero, List.set_cons_succ, i64_w, i32_w]
    rfl
  refine pure_ (i := 1) (N := some 128) (v := ?_) (a' := ?_) #[true, true, false, false, false, false, false, false, false, false, false, false, false] rfl rfl (by kernel_rfl) (fun _ _ _ h => h) (Or.inl ⟨by rfl, ?_⟩) ?_ ?_
  rotate_left
  · intro w'
    go_simp
    with_reducible rfl
  rotate_left
  · simp only [Act.put, List.setIfInBounds_toArray, List.set_cons_zero, List.set_cons_succ, i64_w, i32_w]
    rfl
  refine pure_ (i := 2) (N := some 129) (v := ?_) (a' := ?_) #[true, true, true, false, false, false, false, false, false, false, false, false, false] rfl rfl (by kernel_rfl) (fun _ _ _ h => h) (Or.inl ⟨by rfl, ?_⟩) ?_ ?_
  rotate_left
  · intro w'
    go_simp
    with_reducible rfl
  rotate_left
  · simp only [Act.put, List.setIfInBounds_toArray, List.set_cons_zero, List.set_cons_succ, i64_w, i32_w]
    rfl
  refine pure_ (i := 4) (N := some 131) (v := ?_) (a' := ?_) #[true, true, true, false, true, false, false, false, false, false, false, false, false] rfl rfl (by kernel_rfl) (fun _ _ _ h => h) (Or.inl ⟨by rfl, ?_⟩) ?_ ?_
  rotate_left
  · intro w'
    go_simp
    with_reducible rfl
  rotate_left
  · simp only [Act.put, List.setIfInBounds_toArray, List.set_cons_zero, List.set_cons_succ, i64_w, i32_w]
    rfl
  refine pure_ (i := 6) (N := some 133) (v := ?_) (a' := ?_) #[true, true, true, false, true, false, true, false, false, false, false, false, false] rfl rfl (by kernel_rfl) (fun _ _ _ h => h) (Or.inl ⟨by rfl, ?_⟩) ?_ ?_
  rotate_left
  · intro w'
    go_simp
    with_reducible rfl
  rotate_left
  · simp only [Act.put, List.setIfInBounds_toArray, List.set_cons_zero, List.set_cons_succ, i64_w, i32_w]
    rfl
  refine take_ (i := 3) (N := some 130) (v := ?_) (a' := ?_) #[true, true, true, true, true, false, true, false, false, false, false, false, false] rfl rfl (by kernel_rfl) (fun _ _ _ h => h) (Or.inl ⟨by rfl, ?_⟩) hHeld ?_ ?_
  rotate_left
  · intro w' s0
    go_simp
    with_reducible rfl
  rotate_left
  · simp only [Act.put, List.setIfInBounds_toArray, List.set_cons_zero, List.set_cons_succ, i64_w, i32_w]
    rfl
  refine pure_ (i := 9) (N := some 136) (v := ?_) (a' := ?_) #[true, true, true, true, true, false, true, false, false, true, false, false, false] rfl rfl (by kernel_rfl) (fun _ _ _ h => h) (Or.inl ⟨by rfl, ?_⟩) ?_ ?_
  rotate_left
  · intro w'
    go_simp
    with_reducible rfl
  rotate_left
  · simp only [Act.put, List.setIfInBounds_toArray, List.set_cons_zero, List.set_cons_succ, i64_w, i32_w]
    rfl
  refine pure_ (i := 10) (N := some 137) (v := ?_) (a' := ?_) #[true, true, true, true, true, false, true, false, false, true, true, false, false] rfl rfl (by kernel_rfl) (fun _ _ _ h => h) (Or.inl ⟨by rfl, ?_⟩) ?_ ?_
  rotate_left
  · intro w'
    go_simp
    with_reducible rfl
  rotate_left
  · simp only [Act.put, List.setIfInBounds_toArray, List.set_cons_zero, List.set_cons_succ, i64_w, i32_w]
    rfl
  refine one_ (i := 5) (N := some 132) #[true, true, true, true, true, true, true, false, false, true, true, false, false] rfl rfl (by kernel_rfl) (by decide) (fun K hK => ?_)
  refine goes_ Try.func64 (by kernel_rfl) rfl #[.pointer (some ⟨g, 0, none⟩), .int .i64 0] (by rfl) rfl rfl (by simp only [List.map_toArray, List.map_cons, List.map_nil]; rfl) ?_
  with_reducible refine (SE.lastc (HS5.out.step (below_drew (Below.refl _ _))) HL.out.1 0 0 rfl (by have := HT.out; omega)).mono ?_
  rintro e w6 ⟨rfl, hs6⟩
  refine ⟨_, rfl, ?_⟩
  have HS6 := Aside0.mk hs6
  clear hs6
  clear c0 c1 c2 c3 c4 g1 g3 b0 b1 b2 h0 h1 h2 l0 l1 l2 i0 i1
  obtain ⟨c0, c1, c2, c3, c4, g1, g3⟩ := HS6.out.cells; obtain ⟨b0, b1, b2, h0, h1, h2, l0, l1, l2, i0, i1⟩ := HS6.out.boxes
  refine hK.out _ _ (c4) (fun hHeld => ?_)
  clear hK K
  refine norm_ (a' := ?_) ?_ ?_
  rotate_left
  · show Act.put _ (some 132) _ = _
    simp only [Act.put, List.setIfInBounds_toArray, List.set_cons_zero, List.set_cons_succ, i64_w, i32_w]
    rfl
  refine one_ (i := 7) (N := some 134) #[true, true, true, true, true, true, true, true, false, true, true, false, false] rfl rfl (by kernel_rfl) (by decide) (fun K hK => ?_)
  refine goes_ Try.func64 (by kernel_rfl) rfl #[.pointer (some ⟨g, 0, none⟩), .int .i64 1] (by rfl) rfl rfl (by simp only [List.map_toArray, List.map_cons, List.map_nil]; rfl) ?_
  with_reducible refine (SE.lastc HS6.out HL.out.1 1 1 rfl (by have := HT.out; omega)).mono ?_
  rintro e w7 ⟨rfl, hs7⟩
  refine ⟨_, rfl, ?_⟩
  have HS7 := Aside0.mk hs7
  clear hs7
  clear c0 c1 c2 c3 c4 g1 g3 b0 b1 b2 h0 h1 h2 l0 l1 l2 i0 i1
  obtain ⟨c0, c1, c2, c3, c4, g1, g3⟩ := HS7.out.cells; obtain ⟨b0, b1, b2, h0, h1, h2, l0, l1, l2, i0, i1⟩ := HS7.out.boxes
  refine hK.out _ _ (c4) (fun hHeld => ?_)
  clear hK K
  refine norm_ (a' := ?_) ?_ ?_
  rotate_left
  · show Act.put _ (some 134) _ = _
    simp only [Act.put, List.setIfInBounds_toArray, List.set_cons_zero, List.set_cons_succ, i64_w, i32_w]
    rfl
  refine pure_ (i := 8) (N := some 135) (v := ?_) (a' := ?_) #[true, true, true, true, true, true, true, true, true, true, true, false, false] rfl rfl (by kernel_rfl) (fun _ _ _ h => h) (Or.inl ⟨by rfl, ?_⟩) ?_ ?_
  rotate_left
  · intro w'
    go_simp
    with_reducible rfl
  rotate_left
  · simp only [Act.put, List.setIfInBounds_toArray, List.set_cons_zero, List.set_cons_succ, i64_w, i32_w]
    rfl
  refine one_ (i := 11) (N := some 138) #[true, true, true, true, true, true, true, true, true, true, true, true, false] rfl rfl (by kernel_rfl) (by decide) (fun K hK => ?_)
  refine goesI_ Try.func31 (by kernel_rfl) rfl (method_store _) #[.int .i64 (lastP s.st 0), .int .u8 (lastP s.st 1 % 256)] (by rfl) rfl rfl (by rfl) (by simp only [List.map_toArray, List.map_cons, List.map_nil]; rfl) #[.pointer (some ad), .int .i64 (lastP s.st 0), .int .u8 (lastP s.st 1 % 256)] (by rfl) ?_
  with_reducible refine (HS7.out.storec HFL.out HX.out).mono ?_
  rintro e w8 ⟨f8, rfl, hs8, hf8⟩
  refine ⟨_, rfl, ?_⟩
  have HS8 := Aside0.mk hs8
  have HF8 := Aside0.mk hf8
  clear hs8 hf8
  clear c0 c1 c2 c3 c4 g1 g3 b0 b1 b2 h0 h1 h2 l0 l1 l2 i0 i1
  obtain ⟨c0, c1, c2, c3, c4, g1, g3⟩ := HS8.out.cells; obtain ⟨b0, b1, b2, h0, h1, h2, l0, l1, l2, i0, i1⟩ := HS8.out.boxes
  refine hK.out _ _ (c4) (fun hHeld => ?_)
  clear hK K
  refine norm_ (a' := ?_) ?_ ?_
  rotate_left
  · show Act.put _ (some 138) _ = _
    simp only [Act.put, List.setIfInBounds_toArray, List.set_cons_zero, List.set_cons_succ, i64_w, i32_w]
    rfl
  refine pure_ (i := 12) (N := some 139) (v := ?_) (a' := ?_) #[true, true, true, true, true, true, true, true, true, true, true, true, true] rfl rfl (by kernel_rfl) (fun _ _ _ h => h) (Or.inl ⟨by rfl, ?_⟩) ?_ ?_
  rotate_left
  · intro w'
    go_simp
    with_reducible rfl
  rotate_left
  · simp only [Act.put, List.setIfInBounds_toArray, List.set_cons_zero, List.set_cons_succ, i64_w, i32_w]
    rfl
  refine done_ (by kernel_rfl) ?_

  go_wp2_with (first
    | (go_at_call 63; (with_reducible refine (HS8.out.left HF8.out 2 2 rfl (by have := HT.out; omega) HL.out.1 none 0 0 [] (Kd.C_nil _ _) (by decide)).mono ?_); rintro e w9 ⟨B9, d9, rfl, hs9⟩; have HS9 := Aside0.mk hs9; clear hs9; clear c0 c1 c2 c3 c4 g1 g3 b0 b1 b2 h0 h1 h2 l0 l1 l2 i0 i1; obtain ⟨c0, c1, c2, c3, c4, g1, g3⟩ := HS9.out.cells; obtain ⟨b0, b1, b2, h0, h1, h2, l0, l1, l2, i0, i1⟩ := HS9.out.boxes))
  have HF := HS9.out.pc HF8.out (s.pc + 1)
  have hz := blk_set (blk_set (blk_set HF.res 0 (.int .i64 0)) 1 (.int .i64 0)) 2 (.int .i64 0)
  have e0 := (blk_cell hz 0).trans (show _ = some (Value.int .i64 0) from rfl)
  have e1 := (blk_cell hz 1).trans (show _ = some (Value.int .i64 0) from rfl)
  have e2 := (blk_cell hz 2).trans (show _ = some (Value.int .i64 0) from rfl)
  exact bodyPost_ret (v := .agg #[.int .i64 0, .int .i64 0, .int .i64 0]) (by simp [results, Try.results54, go_sem, e0, e1, e2]) rfl (HF.told 0 0 0 HF8.out HR.out rfl)
set_option maxHeartbeats 8000000 in
set_option maxRecDepth 100000 in
theorem step_bothno (W : World) (base g : Nat) (Ac : Option Addr) (cc : Nat) (code : List In) (p : Value) (f : Nat → Prop) (v1 v2 : Value) (s : St) (m : Mem) (h : Mach W base g Ac cc code p f v1 v2 s m) (hbase : base ≤ W.heap.size) (hs : mayP s code.length) (hlt : s.pc < (code.length : Int)) (hlen : code.length ≤ 1024) (op a : Int) (d1 : op ≠ 1) (d3 : op ≠ 3) (d2 : op ≠ 2) (d4 : op ≠ 4) (d17 : op ≠ 17) (d18 : op ≠ 18) (d19 : op ≠ 19) (d20 : op ≠ 20) (d21 : op ≠ 21) (d22 : op ≠ 22) (d23 : op ≠ 23) (d24 : op ≠ 24) (d25 : op ≠ 25) (y : Int) (hx : bothP op (lastP s.st 1) (lastP s.st 0) = (y, false)) (hop : inAt code s.pc = ⟨op, a⟩) (hh : hasP op a s.st.length = true) : Calls Try.prog 54 #[.pointer (some ⟨g, 0, none⟩)] W (StepPost W base g Ac cc code p f v1 v2 (stepP memK code s m)) := by
  have HH := Aside0.mk hh
  have HT := Aside0.mk (show 2 ≤ s.st.length from by unfold hasP at hh; rw [if_neg d1, if_neg d3, if_neg (by omega), if_neg (by omega)] at hh; simpa using hh)
  have HR := Aside0.mk (show stepP memK code s m = (s, m, 4, 0) from by unfold stepP; rw [if_neg (by omega), hop, if_neg (by rw [hh]; simp)]; rw [opP_both ⟨d1, d3, d2, d4, d17, d18, d19, d20, d21, d22, d23, d24, d25⟩]; simp [*])
  clear hh
  obtain ⟨hp0, hp1, hl, hcl, _⟩ := hs
  have hfl := h.mem.lt
  obtain ⟨B, d, rfl⟩ : ∃ B d, v1 = .slice B s.st.length d := own_slice h.stk
  obtain ⟨E, c, rfl⟩ : ∃ E c, v2 = .slice E s.ca.length c := own_slice h.cal
  have HFL := Aside0.mk (show ∀ k, f k → k < W.heap.size ∨ W.heap.size + 3 ≤ k from fun k hk => .inl (hfl k hk))

  obtain ⟨b, o, rfl, hbw, hcell⟩ := code_at h.cde (by omega)
  obtain ⟨x0, x1⟩ := hcell s.pc.toNat (by omega)
  rw [Int.toNat_of_nonneg hp0, hop] at x0 x1
  generalize hW : ((W.alloc (.cells #[.int .i64 0, .int .i64 0, .int .i64 0] 53)).alloc (.cells #[.int .i64 4, .int .i64 0, .int .i64 0] 53)) = W1 at *
  have hb1 := below_alloc (below_alloc (Below.refl W.heap.size W) (.cells #[.int .i64 0, .int .i64 0, .int .i64 0] 53)) (.cells #[.int .i64 4, .int .i64 0, .int .i64 0] 53)
  rw [hW] at hb1
  have hz1 : W1.heap.size = W.heap.size + 2 := by rw [← hW]; simp
  have y0 : W1.heap[W.heap.size]? = some (.cells #[.int .i64 0, .int .i64 0, .int .i64 0] 53 (0, 0)) := by
    rw [← hW]; exact (heap_alloc_old _ _ (by simp)).trans (heap_alloc_new W _)
  have y1 : W1.heap[W.heap.size + 1]? = some (.cells #[.int .i64 4, .int .i64 0, .int .i64 0] 53 (0, 0)) := by
    rw [← hW]
    have := heap_alloc_new (W.alloc (.cells #[.int .i64 0, .int .i64 0, .int .i64 0] 53)) (.cells #[.int .i64 4, .int .i64 0, .int .i64 0] 53)
    simpa using this
  have hm1 := h.step hb1
  have c0 : W1.cell? ⟨g, 0, none⟩ = some (.slice (some ⟨b, o, none⟩) code.length cc) := blk_cell hm1.box 0
  have c1 : W1.cell? ⟨g, 1, none⟩ = some (.int .i64 s.pc) := blk_cell hm1.box 1
  replace x0 := (hb1.cell (p := ⟨b, o + s.pc.toNat * 2, none⟩) hbw).trans x0
  replace x1 := (hb1.cell (p := ⟨b, o + s.pc.toNat * 2 + 1, none⟩) hbw).trans x1
  have t0 : (s.pc == (code.length : Int)) = false := by simp; omega
  have e1 : wrap64 (s.pc + 1) = s.pc + 1 := by unfold wrap64; omega
  have n0 : (W.heap.size = g) = False := eq_false (by have := h.gl; omega)
  have n1 : (g = W.heap.size) = False := eq_false (by have := h.gl; omega)
  have n2 : (W.heap.size + 2 = g) = False := eq_false (by have := h.gl; omega)
  have n3 : (g = W.heap.size + 2) = False := eq_false (by have := h.gl; omega)
  have HSE := Aside0.mk (fun (w3 : World) (hb : Below W1.heap.size W1 w3) hn => SE.init h hbase hb1 hz1 y0 y1 hb (w3 := w3) hn op a)
  have HW := Aside0.mk hW
  have HM1 := Aside0.mk hm1
  have HZ := Aside0.mk hz1
  have HG := Aside0.mk (show b < W1.heap.size from Nat.lt_of_lt_of_le hbw hb1.size)
  have HGL := Aside0.mk hm1.gl
  have k0 : (0 : Int) ≤ s.pc := hp0
  have k1 : s.pc < (code.length : Int) := hlt
  have HL := Aside0.mk (And.intro hl hcl)
  have h_cal := h.cal
  have h_mem := h.mem
  clear h hbase hfl hcell hW hb1 y0 y1 hm1 hp0 hp1 hlt hl hcl
  go_enter Try.func54, Try.ntmps54
  go_wp2
  rw [HW.out]
  go_quiet (fail)
  go_wp2
  refine start_ (n := 13) (S := fun w' => w'.cell? ⟨g, 0, none⟩ = some (.slice (some ⟨b, o, none⟩) code.length cc) ∧ w'.cell? ⟨g, 1, none⟩ = some (.int .i64 s.pc) ∧ w'.cell? ⟨b, o + s.pc.toNat * 2, none⟩ = some (.int .i64 op) ∧ w'.cell? ⟨b, o + s.pc.toNat * 2 + 1, none⟩ = some (.int .i64 a)) (ds := [12]) #[false, false, false, false, false, false, false, false, false, false, false, false, false] (by kernel_rfl) rfl rfl ⟨c0, c1, x0, x1⟩ (fun hHeld => ?_)
  refine pure_ (i := 0) (N := some 24) (v := ?_) (a' := ?_) #[true, false, false, false, false, false, false, false, false, false, false, false, false] rfl rfl (by kernel_rfl) (fun _ _ _ h => h) (Or.inl ⟨by rfl, ?_⟩) ?_ ?_
  rotate_left
  · intro w'
    go_simp
    with_reducible rfl
  rotate_left
  · simp only [Act.put, List.setIfInBounds_toArray, List.set_cons_zero, List.set_cons_succ, i64_w, i32_w]
    rfl
  refine pure_ (i := 1) (N := some 25) (v := ?_) (a' := ?_) #[true, true, false, false, false, false, false, false, false, false, false, false, false] rfl rfl (by kernel_rfl) (fun _ _ _ h => h) (Or.inl ⟨by rfl, ?_⟩) ?_ ?_
  rotate_left
  · intro w'
    go_simp
    with_reducible rfl
  rotate_left
  · simp only [Act.put, List.setIfInBounds_toArray, List.set_cons_zero, List.set_cons_succ, i64_w, i32_w]
    rfl
  refine pure_ (i := 2) (N := some 26) (v := ?_) (a' := ?_) #[true, true, true, false, false, false, false, false, false, false, false, false, false] rfl rfl (by kernel_rfl) (fun _ _ _ h => h) (Or.inl ⟨by rfl, ?_⟩) ?_ ?_
  rotate_left
  · intro w'
    go_simp
    with_reducible rfl
  rotate_left
  · simp only [Act.put, List.setIfInBounds_toArray, List.set_cons_zero, List.set_cons_succ, i64_w, i32_w]
    rfl
  refine pure_ (i := 4) (N := some 28) (v := ?_) (a' := ?_) #[true, true, true, false, true, false, false, false, false, false, false, false, false] rfl rfl (by kernel_rfl) (fun _ _ _ h => h) (Or.inl ⟨by rfl, ?_⟩) ?_ ?_
  rotate_left
  · intro w'
    go_simp
    with_reducible rfl
  rotate_left
  · simp only [Act.put, List.setIfInBounds_toArray, List.set_cons_zero, List.set_cons_succ, i64_w, i32_w]
    rfl
  refine pure_ (i := 5) (N := some 29) (v := ?_) (a' := ?_) #[true, true, true, false, true, true, false, false, false, false, false, false, false] rfl rfl (by kernel_rfl) (fun _ _ _ h => h) (Or.inl ⟨by rfl, ?_⟩) ?_ ?_
  rotate_left
  · intro w'
    go_simp
    with_reducible rfl
  rotate_left
  · simp only [Act.put, List.setIfInBounds_toArray, List.set_cons_zero, List.set_cons_succ, i64_w, i32_w]
    rfl
  refine pure_ (i := 6) (N := some 30) (v := ?_) (a' := ?_) #[true, true, true, false, true, true, true, false, false, false, false, false, false] rfl rfl (by kernel_rfl) (fun _ _ _ h => h) (Or.inl ⟨by rfl, ?_⟩) ?_ ?_
  rotate_left
  · intro w'
    go_simp
    with_reducible rfl
  rotate_left
  · simp only [Act.put, List.setIfInBounds_toArray, List.set_cons_zero, List.set_cons_succ, i64_w, i32_w]
    rfl
  refine pure_ (i := 7) (N := some 31) (v := ?_) (a' := ?_) #[true, true, true, false, true, true, true, true, false, false, false, false, false] rfl rfl (by kernel_rfl) (fun _ _ _ h => h) (Or.inl ⟨by rfl, ?_⟩) ?_ ?_
  rotate_left
  · intro w'
    go_simp
    with_reducible rfl
  rotate_left
  · simp only [Act.put, List.setIfInBounds_toArray, List.set_cons_zero, List.set_cons_succ, i64_w, i32_w]
    rfl
  refine take_ (i := 3) (N := some 27) (v := ?_) (a' := ?_) #[true, true, true, true, true, true, true, true, false, false, false, false, false] rfl rfl (by kernel_rfl) (fun _ _ _ h => h) (Or.inl ⟨by rfl, ?_⟩) hHeld ?_ ?_
  rotate_left
  · rintro w' ⟨s0, s1, s2, s3⟩
    go_simp
    with_reducible rfl
  rotate_left
  · simp only [Act.put, List.setIfInBounds_toArray, List.set_cons_zero, List.set_cons_succ, i64_w, i32_w]
    rfl
  refine take_ (i := 8) (N := some 32) (v := ?_) (a' := ?_) #[true, true, true, true, true, true, true, true, true, false, false, false, false] rfl rfl (by kernel_rfl) (fun _ _ _ h => h) (Or.inl ⟨by rfl, ?_⟩) hHeld ?_ ?_
  rotate_left
  · rintro w' ⟨s0, s1, s2, s3⟩
    go_simp
    with_reducible rfl
  rotate_left
  · simp only [Act.put, List.setIfInBounds_toArray, List.set_cons_zero, List.set_cons_succ, i64_w, i32_w]
    rfl
  refine pure_ (i := 9) (N := some 33) (v := ?_) (a' := ?_) #[true, true, true, true, true, true, true, true, true, true, false, false, false] rfl rfl (by kernel_rfl) (fun _ _ _ h => h) (Or.inl ⟨by rfl, ?_⟩) ?_ ?_
  rotate_left
  · intro w'
    go_simp
    with_reducible rfl
  rotate_left
  · simp only [Act.put, List.setIfInBounds_toArray, List.set_cons_zero, List.set_cons_succ, i64_w, i32_w]
    rfl
  refine take_ (i := 10) (N := some 34) (v := ?_) (a' := ?_) #[true, true, true, true, true, true, true, true, true, true, true, false, false] rfl rfl (by kernel_rfl) (fun _ _ _ h => h) (Or.inl ⟨by rfl, ?_⟩) hHeld ?_ ?_
  rotate_left
  · rintro w' ⟨s0, s1, s2, s3⟩
    go_simp
    with_reducible rfl
  rotate_left
  · simp only [Act.put, List.setIfInBounds_toArray, List.set_cons_zero, List.set_cons_succ, i64_w, i32_w]
    rfl
  refine one_ (i := 11) (N := some 4) #[true, true, true, true, true, true, true, true, true, true, true, true, false] rfl rfl (by kernel_rfl) (by decide) (fun K hK => ?_)
  refine value_ (w1 := ?_) (v := ?_) (by rfl) rfl ?_ ?_
  rotate_left 2
  · go_simp
    constructor
    · rfl
    · rfl
  have hb3 : Below W1.heap.size W1 ((W1.drewN (nq + 1)).alloc (.cells #[.int .i64 0, .int .i64 0] 27)) := below_alloc (w := W1) (pw_below_drewN (Below.refl W1.heap.size W1) (nq + 1)) _
  have hn3 : ((W1.drewN (nq + 1)).alloc (.cells #[.int .i64 0, .int .i64 0] 27)).heap[W.heap.size + 2]? = some (.cells #[.int .i64 0, .int .i64 0] 27 (0, 0)) := by rw [← hz1]; exact heap_alloc_new (W1.drewN (nq + 1)) _
  generalize (W1.drewN (nq + 1)).alloc (.cells #[.int .i64 0, .int .i64 0] 27) = w3 at *
  have HB3 := Aside0.mk hb3
  have i0 := blk_cell hn3 0
  have i1 := blk_cell hn3 1
  have j0 := blk_frozen hn3 0
  have j1 := blk_frozen hn3 1
  have hs4 := HSE.out w3 hb3 hn3
  clear hb3 hn3
  have HS4 := Aside0.mk hs4
  clear hs4
  refine hK.out _ _ ⟨(HB3.out.cell (p := ⟨g, 0, none⟩) HGL.out).trans c0, (HB3.out.cell (p := ⟨g, 1, none⟩) HGL.out).trans c1, (HB3.out.cell (p := ⟨b, o + s.pc.toNat * 2, none⟩) HG.out).trans x0, (HB3.out.cell (p := ⟨b, o + s.pc.toNat * 2 + 1, none⟩) HG.out).trans x1⟩ (fun hHeld => ?_)
  clear hK K
  refine norm_ (a' := ?_) ?_ ?_
  rotate_left
  · show Act.put _ (some 4) _ = _
    simp only [Act.put, List.setIfInBounds_toArray, List.set_cons_zero, List.set_cons_succ, i64_w, i32_w]
    rfl
  refine last_ (i := 12) (N := none) #[true, true, true, true, true, true, true, true, true, true, true, true, true] rfl rfl (by kernel_rfl) (by decide) (fun K hK => ?_)
  refine skip_ (w1 := ?_) (by rfl) rfl ?_ ?_
  rotate_left
  · go_simp
    rfl
  refine hK.out _ _ ?_
  clear hK K
  refine done_ (by kernel_rfl) ?_

  have HS4' : Aside0 _ := HS4
  clear HS4
  generalize (w3.setCell ⟨W.heap.size + 2, 0, none⟩ (.int .i64 op)).setCell ⟨W.heap.size + 2, 1, none⟩ (.int .i64 a) = w4 at *
  have HS4 := HS4'
  clear HS4' c0 c1 x0 x1 i0 i1 j0 j1 HSE hHeld HB3
  obtain ⟨c0, c1, c2, c3, c4, g1, g3⟩ := HS4.out.cells; obtain ⟨b0, b1, b2, h0, h1, h2, l0, l1, l2, i0, i1⟩ := HS4.out.boxes
  have HX := Aside0.mk hx
  clear hx h_cal h_mem
  replace d1 : (op == 1) = false := by simpa using d1
  replace d3 : (op == 3) = false := by simpa using d3
  replace d2 : (op == 2) = false := by simpa using d2
  replace d4 : (op == 4) = false := by simpa using d4
  replace d17 : (op == 17) = false := by simpa using d17
  replace d18 : (op == 18) = false := by simpa using d18
  replace d19 : (op == 19) = false := by simpa using d19
  replace d20 : (op == 20) = false := by simpa using d20
  replace d21 : (op == 21) = false := by simpa using d21
  replace d22 : (op == 22) = false := by simpa using d22
  replace d23 : (op == 23) = false := by simpa using d23
  replace d24 : (op == 24) = false := by simpa using d24
  replace d25 : (op == 25) = false := by simpa using d25
  go_wp2_with (first
    | (go_at_call 62; (with_reducible refine (has_calls _ g B s.st.length d op a c2 HL.out.1).mono ?_); rintro e w5 ⟨he, hb5⟩; rw [HH.out] at he; subst he; have HS5 := Aside0.mk (HS4.out.step hb5); clear hb5 c0 c1 c2 c3 c4 g1 g3 b0 b1 b2 h0 h1 h2 l0 l1 l2 i0 i1; obtain ⟨c0, c1, c2, c3, c4, g1, g3⟩ := HS5.out.cells; obtain ⟨b0, b1, b2, h0, h1, h2, l0, l1, l2, i0, i1⟩ := HS5.out.boxes))
  refine start_ (n := 12) (S := fun w' => w'.cell? ⟨W.heap.size + 2, 0, none⟩ = some (.int .i64 op)) (ds := []) #[false, false, false, false, false, false, false, false, false, false, false, false] (by kernel_rfl) rfl rfl (i0) (fun hHeld => ?_)
  refine pure_ (i := 0) (N := some 49) (v := ?_) (a' := ?_) #[true, false, false, false, false, false, false, false, false, false, false, false] rfl rfl (by kernel_rfl) (fun _ _ _ h => h) (Or.inl ⟨by rfl, ?_⟩) ?_ ?_
  rotate_left
  · intro w'
    go_simp
    with_reducible rfl
  rotate_left
  · simp only [Act.put, List.setIfInBounds_toArray, List.set_cons_zero, List.set_cons_succ, i64_w, i32_w]
    rfl
  refine pure_ (i := 2) (N := some 51) (v := ?_) (a' := ?_) #[true, false, true, false, false, false, false, false, false, false, false, false] rfl rfl (by kernel_rfl) (fun _ _ _ h => h) (Or.inl ⟨by rfl, ?_⟩) ?_ ?_
  rotate_left
  · intro w'
    go_simp
    with_reducible rfl
  rotate_left
  · simp only [Act.put, List.setIfInBounds_toArray, List.set_cons_zero, List.set_cons_succ, i64_w, i32_w]
    rfl
  refine pure_ (i := 4) (N := some 53) (v := ?_) (a' := ?_) #[true, false, true, false, true, false, false, false, false, false, false, false] rfl rfl (by kernel_rfl) (fun _ _ _ h => h) (Or.inl ⟨by rfl, ?_⟩) ?_ ?_
  rotate_left
  · intro w'
    go_simp
    with_reducible rfl
  rotate_left
  · simp only [Act.put, List.setIfInBounds_toArray, List.set_cons_zero, List.set_cons_succ, i64_w, i32_w]
    rfl
  refine take_ (i := 1) (N := some 50) (v := ?_) (a' := ?_) #[true, true, true, false, true, false, false, false, false, false, false, false] rfl rfl (by kernel_rfl) (fun _ _ _ h => h) (Or.inl ⟨by rfl, ?_⟩) hHeld ?_ ?_
  rotate_left
  · intro w' s0
    go_simp
    with_reducible rfl
  rotate_left
  · simp only [Act.put, List.setIfInBounds_toArray, List.set_cons_zero, List.set_cons_succ, i64_w, i32_w]
    rfl
  refine one_ (i := 3) (N := some 52) #[true, true, true, true, true, false, false, false, false, false, false, false] rfl rfl (by kernel_rfl) (by decide) (fun K hK => ?_)
  refine goes_ Try.func64 (by kernel_rfl) rfl #[.pointer (some ⟨g, 0, none⟩), .int .i64 1] (by rfl) rfl rfl (by simp only [List.map_toArray, List.map_cons, List.map_nil]; rfl) ?_
  with_reducible refine (SE.lastc (HS5.out.step (below_drew (Below.refl _ _))) HL.out.1 1 1 rfl (by have := HT.out; omega)).mono ?_
  rintro e w6 ⟨rfl, hs6⟩
  refine ⟨_, rfl, ?_⟩
  have HS6 := Aside0.mk hs6
  clear hs6
  clear c0 c1 c2 c3 c4 g1 g3 b0 b1 b2 h0 h1 h2 l0 l1 l2 i0 i1
  obtain ⟨c0, c1, c2, c3, c4, g1, g3⟩ := HS6.out.cells; obtain ⟨b0, b1, b2, h0, h1, h2, l0, l1, l2, i0, i1⟩ := HS6.out.boxes
  refine hK.out _ _ (i0) (fun hHeld => ?_)
  clear hK K
  refine norm_ (a' := ?_) ?_ ?_
  rotate_left
  · show Act.put _ (some 52) _ = _
    simp only [Act.put, List.setIfInBounds_toArray, List.set_cons_zero, List.set_cons_succ, i64_w, i32_w]
    rfl
  refine one_ (i := 5) (N := some 54) #[true, true, true, true, true, true, false, false, false, false, false, false] rfl rfl (by kernel_rfl) (by decide) (fun K hK => ?_)
  refine goes_ Try.func64 (by kernel_rfl) rfl #[.pointer (some ⟨g, 0, none⟩), .int .i64 0] (by rfl) rfl rfl (by simp only [List.map_toArray, List.map_cons, List.map_nil]; rfl) ?_
  with_reducible refine (SE.lastc HS6.out HL.out.1 0 0 rfl (by have := HT.out; omega)).mono ?_
  rintro e w7 ⟨rfl, hs7⟩
  refine ⟨_, rfl, ?_⟩
  have HS7 := Aside0.mk hs7
  clear hs7
  clear c0 c1 c2 c3 c4 g1 g3 b0 b1 b2 h0 h1 h2 l0 l1 l2 i0 i1
  obtain ⟨c0, c1, c2, c3, c4, g1, g3⟩ := HS7.out.cells; obtain ⟨b0, b1, b2, h0, h1, h2, l0, l1, l2, i0, i1⟩ := HS7.out.boxes
  refine hK.out _ _ (i0) (fun hHeld => ?_)
  clear hK K
  refine norm_ (a' := ?_) ?_ ?_
  rotate_left
  · show Act.put _ (some 54) _ = _
    simp only [Act.put, List.setIfInBounds_toArray, List.set_cons_zero, List.set_cons_succ, i64_w, i32_w]
    rfl
  refine one_ (i := 6) (N := some 55) #[true, true, true, true, true, true, true, false, false, false, false, false] rfl rfl (by kernel_rfl) (by decide) (fun K hK => ?_)
  refine goes_ Try.func66 (by kernel_rfl) rfl #[.int .i64 op, .int .i64 (lastP s.st 1), .int .i64 (lastP s.st 0)] (by rfl) rfl rfl (by simp only [List.map_toArray, List.map_cons, List.map_nil]; rfl) ?_
  with_reducible refine (SE.bothcc HS7.out HX.out).mono ?_
  rintro e w8 ⟨rfl, hs8⟩
  refine ⟨_, rfl, ?_⟩
  have HS8 := Aside0.mk hs8
  clear hs8
  clear c0 c1 c2 c3 c4 g1 g3 b0 b1 b2 h0 h1 h2 l0 l1 l2 i0 i1
  obtain ⟨c0, c1, c2, c3, c4, g1, g3⟩ := HS8.out.cells; obtain ⟨b0, b1, b2, h0, h1, h2, l0, l1, l2, i0, i1⟩ := HS8.out.boxes
  refine hK.out _ _ (i0) (fun hHeld => ?_)
  clear hK K
  refine norm_ (a' := ?_) ?_ ?_
  rotate_left
  · show Act.put _ (some 55) _ = _
    simp only [Act.put, List.setIfInBounds_toArray, List.set_cons_zero, List.set_cons_succ, i64_w, i32_w]
    rfl
  refine pure_ (i := 7) (N := some 48) (v := ?_) (a' := ?_) #[true, true, true, true, true, true, true, true, false, false, false, false] rfl rfl (by kernel_rfl) (fun _ _ _ h => h) (Or.inl ⟨by rfl, ?_⟩) ?_ ?_
  rotate_left
  · intro w'
    go_simp
    with_reducible rfl
  rotate_left
  · simp only [Act.put, List.setIfInBounds_toArray, List.set_cons_zero, List.set_cons_succ, i64_w, i32_w]
    rfl
  refine pure_ (i := 8) (N := some 56) (v := ?_) (a' := ?_) #[true, true, true, true, true, true, true, true, true, false, false, false] rfl rfl (by kernel_rfl) (fun _ _ _ h => h) (Or.inl ⟨by rfl, ?_⟩) ?_ ?_
  rotate_left
  · intro w'
    go_simp
    with_reducible rfl
  rotate_left
  · simp only [Act.put, List.setIfInBounds_toArray, List.set_cons_zero, List.set_cons_succ, i64_w, i32_w]
    rfl
  refine pure_ (i := 9) (N := some 57) (v := ?_) (a' := ?_) #[true, true, true, true, true, true, true, true, true, true, false, false] rfl rfl (by kernel_rfl) (fun _ _ _ h => h) (Or.inl ⟨by rfl, ?_⟩) ?_ ?_
  rotate_left
  · intro w'
    go_simp
    with_reducible rfl
  rotate_left
  · simp only [Act.put, List.setIfInBounds_toArray, List.set_cons_zero, List.set_cons_succ, i64_w, i32_w]
    rfl
  refine pure_ (i := 10) (N := some 9) (v := ?_) (a' := ?_) #[true, true, true, true, true, true, true, true, true, true, true, false] rfl rfl (by kernel_rfl) (fun _ _ _ h => h) (Or.inl ⟨by rfl, ?_⟩) ?_ ?_
  rotate_left
  · intro w'
    go_simp
    with_reducible rfl
  rotate_left
  · simp only [Act.put, List.setIfInBounds_toArray, List.set_cons_zero, List.set_cons_succ, i64_w, i32_w]
    rfl
  refine pure_ (i := 11) (N := some 10) (v := ?_) (a' := ?_) #[true, true, true, true, true, true, true, true, true, true, true, true] rfl rfl (by kernel_rfl) (fun _ _ _ h => h) (Or.inl ⟨by rfl, ?_⟩) ?_ ?_
  rotate_left
  · intro w'
    go_simp
    with_reducible rfl
  rotate_left
  · simp only [Act.put, List.setIfInBounds_toArray, List.set_cons_zero, List.set_cons_succ, i64_w, i32_w]
    rfl
  refine done_ (by kernel_rfl) ?_

  go_wp2
  have HF := HS8.out
  have hz := blk_set (blk_set (blk_set HF.res 0 (.int .i64 4)) 1 (.int .i64 0)) 2 (.int .i64 0)
  have e0 := (blk_cell hz 0).trans (show _ = some (Value.int .i64 4) from rfl)
  have e1 := (blk_cell hz 1).trans (show _ = some (Value.int .i64 0) from rfl)
  have e2 := (blk_cell hz 2).trans (show _ = some (Value.int .i64 0) from rfl)
  exact bodyPost_ret (v := .agg #[.int .i64 4, .int .i64 0, .int .i64 0]) (by simp [results, Try.results54, go_sem, e0, e1, e2]) rfl (HF.told 4 0 0 HFL.out HR.out rfl)
set_option maxHeartbeats 8000000 in
set_option maxRecDepth 100000 in
theorem step_both (W : World) (base g : Nat) (Ac : Option Addr) (cc : Nat) (code : List In) (p : Value) (f : Nat → Prop) (v1 v2 : Value) (s : St) (m : Mem) (h : Mach W base g Ac cc code p f v1 v2 s m) (hbase : base ≤ W.heap.size) (hs : mayP s code.length) (hlt : s.pc < (code.length : Int)) (hlen : code.length ≤ 1024) (op a : Int) (d1 : op ≠ 1) (d3 : op ≠ 3) (d2 : op ≠ 2) (d4 : op ≠ 4) (d17 : op ≠ 17) (d18 : op ≠ 18) (d19 : op ≠ 19) (d20 : op ≠ 20) (d21 : op ≠ 21) (d22 : op ≠ 22) (d23 : op ≠ 23) (d24 : op ≠ 24) (d25 : op ≠ 25) (y : Int) (hx : bothP op (lastP s.st 1) (lastP s.st 0) = (y, true)) (hop : inAt code s.pc = ⟨op, a⟩) (hh : hasP op a s.st.length = true) : Calls Try.prog 54 #[.pointer (some ⟨g, 0, none⟩)] W (StepPost W base g Ac cc code p f v1 v2 (stepP memK code s m)) := by
  have HH := Aside0.mk hh
  have HT := Aside0.mk (show 2 ≤ s.st.length from by unfold hasP at hh; rw [if_neg d1, if_neg d3, if_neg (by omega), if_neg (by omega)] at hh; simpa using hh)
  have HR := Aside0.mk (show stepP memK code s m = (⟨s.pc + 1, cutP s.st 2 ++ [y], s.ca⟩, m, 0, 0) from by unfold stepP; rw [if_neg (by omega), hop, if_neg (by rw [hh]; simp)]; rw [opP_both ⟨d1, d3, d2, d4, d17, d18, d19, d20, d21, d22, d23, d24, d25⟩]; simp [*])
  clear hh
  obtain ⟨hp0, hp1, hl, hcl, _⟩ := hs
  have hfl := h.mem.lt
  obtain ⟨B, d, rfl⟩ : ∃ B d, v1 = .slice B s.st.length d := own_slice h.stk
  obtain ⟨E, c, rfl⟩ : ∃ E c, v2 = .slice E s.ca.length c := own_slice h.cal
  have HFL := Aside0.mk (show ∀ k, f k → k < W.heap.size ∨ W.heap.size + 3 ≤ k from fun k hk => .inl (hfl k hk))

  obtain ⟨b, o, rfl, hbw, hcell⟩ := code_at h.cde (by omega)
  obtain ⟨x0, x1⟩ := hcell s.pc.toNat (by omega)
  rw [Int.toNat_of_nonneg hp0, hop] at x0 x1
  generalize hW : ((W.alloc (.cells #[.int .i64 0, .int .i64 0, .int .i64 0] 53)).alloc (.cells #[.int .i64 4, .int .i64 0, .int .i64 0] 53)) = W1 at *
  have hb1 := below_alloc (below_alloc (Below.refl W.heap.size W) (.cells #[.int .i64 0, .int .i64 0, .int .i64 0] 53)) (.cells #[.int .i64 4, .int .i64 0, .int .i64 0] 53)
  rw [hW] at hb1
  have hz1 : W1.heap.size = W.heap.size + 2 := by rw [← hW]; simp
  have y0 : W1.heap[W.heap.size]? = some (.cells #[.int .i64 0, .int .i64 0, .int .i64 0] 53 (0, 0)) := by
    rw [← hW]; exact (heap_alloc_old _ _ (by simp)).trans (heap_alloc_new W _)
  have y1 : W1.heap[W.heap.size + 1]? = some (.cells #[.int .i64 4, .int .i64 0, .int .i64 0] 53 (0, 0)) := by
    rw [← hW]
    have := heap_alloc_new (W.alloc (.cells #[.int .i64 0, .int .i64 0, .int .i64 0] 53)) (.cells #[.int .i64 4, .int .i64 0, .int .i64 0] 53)
    simpa using this
  have hm1 := h.step hb1
  have c0 : W1.cell? ⟨g, 0, none⟩ = some (.slice (some ⟨b, o, none⟩) code.length cc) := blk_cell hm1.box 0
  have c1 : W1.cell? ⟨g, 1, none⟩ = some (.int .i64 s.pc) := blk_cell hm1.box 1
  replace x0 := (hb1.cell (p := ⟨b, o + s.pc.toNat * 2, none⟩) hbw).trans x0
  replace x1 := (hb1.cell (p := ⟨b, o + s.pc.toNat * 2 + 1, none⟩) hbw).trans x1
  have t0 : (s.pc == (code.length : Int)) = false := by simp; omega
  have e1 : wrap64 (s.pc + 1) = s.pc + 1 := by unfold wrap64; omega
  have n0 : (W.heap.size = g) = False := eq_false (by have := h.gl; omega)
  have n1 : (g = W.heap.size) = False := eq_false (by have := h.gl; omega)
  have n2 : (W.heap.size + 2 = g) = False := eq_false (by have := h.gl; omega)
  have n3 : (g = W.heap.size + 2) = False := eq_false (by have := h.gl; omega)
  have HSE := Aside0.mk (fun (w3 : World) (hb : Below W1.heap.size W1 w3) hn => SE.init h hbase hb1 hz1 y0 y1 hb (w3 := w3) hn op a)
  have HW := Aside0.mk hW
  have HM1 := Aside0.mk hm1
  have HZ := Aside0.mk hz1
  have HG := Aside0.mk (show b < W1.heap.size from Nat.lt_of_lt_of_le hbw hb1.size)
  have HGL := Aside0.mk hm1.gl
  have k0 : (0 : Int) ≤ s.pc := hp0
  have k1 : s.pc < (code.length : Int) := hlt
  have HL := Aside0.mk (And.intro hl hcl)
  have h_cal := h.cal
  have h_mem := h.mem
  clear h hbase hfl hcell hW hb1 y0 y1 hm1 hp0 hp1 hlt hl hcl
  go_enter Try.func54, Try.ntmps54
  go_wp2
  rw [HW.out]
  go_quiet (fail)
  go_wp2
  refine start_ (n := 13) (S := fun w' => w'.cell? ⟨g, 0, none⟩ = some (.slice (some ⟨b, o, none⟩) code.length cc) ∧ w'.cell? ⟨g, 1, none⟩ = some (.int .i64 s.pc) ∧ w'.cell? ⟨b, o + s.pc.toNat * 2, none⟩ = some (.int .i64 op) ∧ w'.cell? ⟨b, o + s.pc.toNat * 2 + 1, none⟩ = some (.int .i64 a)) (ds := [12]) #[false, false, false, false, false, false, false, false, false, false, false, false, false] (by kernel_rfl) rfl rfl ⟨c0, c1, x0, x1⟩ (fun hHeld => ?_)
  refine pure_ (i := 0) (N := some 24) (v := ?_) (a' := ?_) #[true, false, false, false, false, false, false, false, false, false, false, false, false] rfl rfl (by kernel_rfl) (fun _ _ _ h => h) (Or.inl ⟨by rfl, ?_⟩) ?_ ?_
  rotate_left
  · intro w'
    go_simp
    with_reducible rfl
  rotate_left
  · simp only [Act.put, List.setIfInBounds_toArray, List.set_cons_zero, List.set_cons_succ, i64_w, i32_w]
    rfl
  refine pure_ (i := 1) (N := some 25) (v := ?_) (a' := ?_) #[true, true, false, false, false, false, false, false, false, false, false, false, false] rfl rfl (by kernel_rfl) (fun _ _ _ h => h) (Or.inl ⟨by rfl, ?_⟩) ?_ ?_
  rotate_left
  · intro w'
    go_simp
    with_reducible rfl
  rotate_left
  · simp only [Act.put, List.setIfInBounds_toArray, List.set_cons_zero, List.set_cons_succ, i64_w, i32_w]
    rfl
  refine pure_ (i := 2) (N := some 26) (v := ?_) (a' := ?_) #[true, true, true, false, false, false, false, false, false, false, false, false, false] rfl rfl (by kernel_rfl) (fun _ _ _ h => h) (Or.inl ⟨by rfl, ?_⟩) ?_ ?_
  rotate_left
  · intro w'
    go_simp
    with_reducible rfl
  rotate_left
  · simp only [Act.put, List.setIfInBounds_toArray, List.set_cons_zero, List.set_cons_succ, i64_w, i32_w]
    rfl
  refine pure_ (i := 4) (N := some 28) (v := ?_) (a' := ?_) #[true, true, true, false, true, false, false, false, false, false, false, false, false] rfl rfl (by kernel_rfl) (fun _ _ _ h => h) (Or.inl ⟨by rfl, ?_⟩) ?_ ?_
  rotate_left
  · intro w'
    go_simp
    with_reducible rfl
  rotate_left
  · simp only [Act.put, List.setIfInBounds_toArray, List.set_cons_zero, List.set_cons_succ, i64_w, i32_w]
    rfl
  refine pure_ (i := 5) (N := some 29) (v := ?_) (a' := ?_) #[true, true, true, false, true, true, false, false, false, false, false, false, false] rfl rfl (by kernel_rfl) (fun _ _ _ h => h) (Or.inl ⟨by rfl, ?_⟩) ?_ ?_
  rotate_left
  · intro w'
    go_simp
    with_reducible rfl
  rotate_left
  · simp only [Act.put, List.setIfInBounds_toArray, List.set_cons_zero, List.set_cons_succ, i64_w, i32_w]
    rfl
  refine pure_ (i := 6) (N := some 30) (v := ?_) (a' := ?_) #[true, true, true, false, true, true, true, false, false, false, false, false, false] rfl rfl (by kernel_rfl) (fun _ _ _ h => h) (Or.inl ⟨by rfl, ?_⟩) ?_ ?_
  rotate_left
  · intro w'
    go_simp
    with_reducible rfl
  rotate_left
  · simp only [Act.put, List.setIfInBounds_toArray, List.set_cons_zero, List.set_cons_succ, i64_w, i32_w]
    rfl
  refine pure_ (i := 7) (N := some 31) (v := ?_) (a' := ?_) #[true, true, true, false, true, true, true, true, false, false, false, false, false] rfl rfl (by kernel_rfl) (fun _ _ _ h => h) (Or.inl ⟨by rfl, ?_⟩) ?_ ?_
  rotate_left
  · intro w'
    go_simp
    with_reducible rfl
  rotate_left
  · simp only [Act.put, List.setIfInBounds_toArray, List.set_cons_zero, List.set_cons_succ, i64_w, i32_w]
    rfl
  refine take_ (i := 3) (N := some 27) (v := ?_) (a' := ?_) #[true, true, true, true, true, true, true, true, false, false, false, false, false] rfl rfl (by kernel_rfl) (fun _ _ _ h => h) (Or.inl ⟨by rfl, ?_⟩) hHeld ?_ ?_
  rotate_left
  · rintro w' ⟨s0, s1, s2, s3⟩
    go_simp
    with_reducible rfl
  rotate_left
  · simp only [Act.put, List.setIfInBounds_toArray, List.set_cons_zero, List.set_cons_succ, i64_w, i32_w]
    rfl
  refine take_ (i := 8) (N := some 32) (v := ?_) (a' := ?_) #[true, true, true, true, true, true, true, true, true, false, false, false, false] rfl rfl (by kernel_rfl) (fun _ _ _ h => h) (Or.inl ⟨by rfl, ?_⟩) hHeld ?_ ?_
  rotate_left
  · rintro w' ⟨s0, s1, s2, s3⟩
    go_simp
    with_reducible rfl
  rotate_left
  · simp only [Act.put, List.setIfInBounds_toArray, List.set_cons_zero, List.set_cons_succ, i64_w, i32_w]
    rfl
  refine pure_ (i := 9) (N := some 33) (v := ?_) (a' := ?_) #[true, true, true, true, true, true, true, true, true, true, false, false, false] rfl rfl (by kernel_rfl) (fun _ _ _ h => h) (Or.inl ⟨by rfl, ?_⟩) ?_ ?_
  rotate_left
  · intro w'
    go_simp
    with_reducible rfl
  rotate_left
  · simp only [Act.put, List.setIfInBounds_toArray, List.set_cons_zero, List.set_cons_succ, i64_w, i32_w]
    rfl
  refine take_ (i := 10) (N := some 34) (v := ?_) (a' := ?_) #[true, true, true, true, true, true, true, true, true, true, true, false, false] rfl rfl (by kernel_rfl) (fun _ _ _ h => h) (Or.inl ⟨by rfl, ?_⟩) hHeld ?_ ?_
  rotate_left
  · rintro w' ⟨s0, s1, s2, s3⟩
    go_simp
    with_reducible rfl
  rotate_left
  · simp only [Act.put, List.setIfInBounds_toArray, List.set_cons_zero, List.set_cons_succ, i64_w, i32_w]
    rfl
  refine one_ (i := 11) (N := some 4) #[true, true, true, true, true, true, true, true, true, true, true, true, false] rfl rfl (by kernel_rfl) (by decide) (fun K hK => ?_)
  refine value_ (w1 := ?_) (v := ?_) (by rfl) rfl ?_ ?_
  rotate_left 2
  · go_simp
    constructor
    · rfl
    · rfl
  have hb3 : Below W1.heap.size W1 ((W1.drewN (nq + 1)).alloc (.cells #[.int .i64 0, .int .i64 0] 27)) := below_alloc (w := W1) (pw_below_drewN (Below.refl W1.heap.size W1) (nq + 1)) _
  have hn3 : ((W1.drewN (nq + 1)).alloc (.cells #[.int .i64 0, .int .i64 0] 27)).heap[W.heap.size + 2]? = some (.cells #[.int .i64 0, .int .i64 0] 27 (0, 0)) := by rw [← hz1]; exact heap_alloc_new (W1.drewN (nq + 1)) _
  generalize (W1.drewN (nq + 1)).alloc (.cells #[.int .i64 0, .int .i64 0] 27) = w3 at *
  have HB3 := Aside0.mk hb3
  have i0 := blk_cell hn3 0
  have i1 := blk_cell hn3 1
  have j0 := blk_frozen hn3 0
  have j1 := blk_frozen hn3 1
  have hs4 := HSE.out w3 hb3 hn3
  clear hb3 hn3
  have HS4 := Aside0.mk hs4
  clear hs4
  refine hK.out _ _ ⟨(HB3.out.cell (p := ⟨g, 0, none⟩) HGL.out).trans c0, (HB3.out.cell (p := ⟨g, 1, none⟩) HGL.out).trans c1, (HB3.out.cell (p := ⟨b, o + s.pc.toNat * 2, none⟩) HG.out).trans x0, (HB3.out.cell (p := ⟨b, o + s.pc.toNat * 2 + 1, none⟩) HG.out).trans x1⟩ (fun hHeld => ?_)
  clear hK K
  refine norm_ (a' := ?_) ?_ ?_
  rotate_left
  · show Act.put _ (some 4) _ = _
    simp only [Act.put, List.setIfInBounds_toArray, List.set_cons_zero, List.set_cons_succ, i64_w, i32_w]
    rfl
  refine last_ (i := 12) (N := none) #[true, true, true, true, true, true, true, true, true, true, true, true, true] rfl rfl (by kernel_rfl) (by decide) (fun K hK => ?_)
  refine skip_ (w1 := ?_) (by rfl) rfl ?_ ?_
  rotate_left
  · go_simp
    rfl
  refine hK.out _ _ ?_
  clear hK K
  refine done_ (by kernel_rfl) ?_

  have HS4' : Aside0 _ := HS4
  clear HS4
  generalize (w3.setCell ⟨W.heap.size + 2, 0, none⟩ (.int .i64 op)).setCell ⟨W.heap.size + 2, 1, none⟩ (.int .i64 a) = w4 at *
  have HS4 := HS4'
  clear HS4' c0 c1 x0 x1 i0 i1 j0 j1 HSE hHeld HB3
  obtain ⟨c0, c1, c2, c3, c4, g1, g3⟩ := HS4.out.cells; obtain ⟨b0, b1, b2, h0, h1, h2, l0, l1, l2, i0, i1⟩ := HS4.out.boxes
  have HX := Aside0.mk hx
  clear hx h_cal h_mem
  replace d1 : (op == 1) = false := by simpa using d1
  replace d3 : (op == 3) = false := by simpa using d3
  replace d2 : (op == 2) = false := by simpa using d2
  replace d4 : (op == 4) = false := by simpa using d4
  replace d17 : (op == 17) = false := by simpa using d17
  replace d18 : (op == 18) = false := by simpa using d18
  replace d19 : (op == 19) = false := by simpa using d19
  replace d20 : (op == 20) = false := by simpa using d20
  replace d21 : (op == 21) = false := by simpa using d21
  replace d22 : (op == 22) = false := by simpa using d22
  replace d23 : (op == 23) = false := by simpa using d23
  replace d24 : (op == 24) = false := by simpa using d24
  replace d25 : (op == 25) = false := by simpa using d25
  go_wp2_with (first
    | (go_at_call 62; (with_reducible refine (has_calls _ g B s.st.length d op a c2 HL.out.1).mono ?_); rintro e w5 ⟨he, hb5⟩; rw [HH.out] at he; subst he; have HS5 := Aside0.mk (HS4.out.step hb5); clear hb5 c0 c1 c2 c3 c4 g1 g3 b0 b1 b2 h0 h1 h2 l0 l1 l2 i0 i1; obtain ⟨c0, c1, c2, c3, c4, g1, g3⟩ := HS5.out.cells; obtain ⟨b0, b1, b2, h0, h1, h2, l0, l1, l2, i0, i1⟩ := HS5.out.boxes))
  refine start_ (n := 12) (S := fun w' => w'.cell? ⟨W.heap.size + 2, 0, none⟩ = some (.int .i64 op)) (ds := []) #[false, false, false, false, false, false, false, false, false, false, false, false] (by kernel_rfl) rfl rfl (i0) (fun hHeld => ?_)
  refine pure_ (i := 0) (N := some 49) (v := ?_) (a' := ?_) #[true, false, false, false, false, false, false, false, false, false, false, false] rfl rfl (by kernel_rfl) (fun _ _ _ h => h) (Or.inl ⟨by rfl, ?_⟩) ?_ ?_
  rotate_left
  · intro w'
    go_simp
    with_reducible rfl
  rotate_left
  · simp only [Act.put, List.setIfInBounds_toArray, List.set_cons_zero, List.set_cons_succ, i64_w, i32_w]
    rfl
  refine pure_ (i := 2) (N := some 51) (v := ?_) (a' := ?_) #[true, false, true, false, false, false, false, false, false, false, false, false] rfl rfl (by kernel_rfl) (fun _ _ _ h => h) (Or.inl ⟨by rfl, ?_⟩) ?_ ?_
  rotate_left
  · intro w'
    go_simp
    with_reducible rfl
  rotate_left
  · simp only [Act.put, List.setIfInBounds_toArray, List.set_cons_zero, List.set_cons_succ, i64_w, i32_w]
    rfl
  refine pure_ (i := 4) (N := some 53) (v := ?_) (a' := ?_) #[true, false, true, false, true, false, false, false, false, false, false, false] rfl rfl (by kernel_rfl) (fun _ _ _ h => h) (Or.inl ⟨by rfl, ?_⟩) ?_ ?_
  rotate_left
  · intro w'
    go_simp
    with_reducible rfl
  rotate_left
  · simp only [Act.put, List.setIfInBounds_toArray, List.set_cons_zero, List.set_cons_succ, i64_w, i32_w]
    rfl
  refine take_ (i := 1) (N := some 50) (v := ?_) (a' := ?_) #[true, true, true, false, true, false, false, false, false, false, false, false] rfl rfl (by kernel_rfl) (fun _ _ _ h => h) (Or.inl ⟨by rfl, ?_⟩) hHeld ?_ ?_
  rotate_left
  · intro w' s0
    go_simp
    with_reducible rfl
  rotate_left
  · simp only [Act.put, List.setIfInBounds_toArray, List.set_cons_zero, List.set_cons_succ, i64_w, i32_w]
    rfl
  refine one_ (i := 3) (N := some 52) #[true, true, true, true, true, false, false, false, false, false, false, false] rfl rfl (by kernel_rfl) (by decide) (fun K hK => ?_)
  refine goes_ Try.func64 (by kernel_rfl) rfl #[.pointer (some ⟨g, 0, none⟩), .int .i64 1] (by rfl) rfl rfl (by simp only [List.map_toArray, List.map_cons, List.map_nil]; rfl) ?_
  with_reducible refine (SE.lastc (HS5.out.step (below_drew (Below.refl _ _))) HL.out.1 1 1 rfl (by have := HT.out; omega)).mono ?_
  rintro e w6 ⟨rfl, hs6⟩
  refine ⟨_, rfl, ?_⟩
  have HS6 := Aside0.mk hs6
  clear hs6
  clear c0 c1 c2 c3 c4 g1 g3 b0 b1 b2 h0 h1 h2 l0 l1 l2 i0 i1
  obtain ⟨c0, c1, c2, c3, c4, g1, g3⟩ := HS6.out.cells; obtain ⟨b0, b1, b2, h0, h1, h2, l0, l1, l2, i0, i1⟩ := HS6.out.boxes
  refine hK.out _ _ (i0) (fun hHeld => ?_)
  clear hK K
  refine norm_ (a' := ?_) ?_ ?_
  rotate_left
  · show Act.put _ (some 52) _ = _
    simp only [Act.put, List.setIfInBounds_toArray, List.set_cons_zero, List.set_cons_succ, i64_w, i32_w]
    rfl
  refine one_ (i := 5) (N := some 54) #[true, true, true, true, true, true, false, false, false, false, false, false] rfl rfl (by kernel_rfl) (by decide) (fun K hK => ?_)
  refine goes_ Try.func64 (by kernel_rfl) rfl #[.pointer (some ⟨g, 0, none⟩), .int .i64 0] (by rfl) rfl rfl (by simp only [List.map_toArray, List.map_cons, List.map_nil]; rfl) ?_
  with_reducible refine (SE.lastc HS6.out HL.out.1 0 0 rfl (by have := HT.out; omega)).mono ?_
  rintro e w7 ⟨rfl, hs7⟩
  refine ⟨_, rfl, ?_⟩
  have HS7 := Aside0.mk hs7
  clear hs7
  clear c0 c1 c2 c3 c4 g1 g3 b0 b1 b2 h0 h1 h2 l0 l1 l2 i0 i1
  obtain ⟨c0, c1, c2, c3, c4, g1, g3⟩ := HS7.out.cells; obtain ⟨b0, b1, b2, h0, h1, h2, l0, l1, l2, i0, i1⟩ := HS7.out.boxes
  refine hK.out _ _ (i0) (fun hHeld => ?_)
  clear hK K
  refine norm_ (a' := ?_) ?_ ?_
  rotate_left
  · show Act.put _ (some 54) _ = _
    simp only [Act.put, List.setIfInBounds_toArray, List.set_cons_zero, List.set_cons_succ, i64_w, i32_w]
    rfl
  refine one_ (i := 6) (N := some 55) #[true, true, true, true, true, true, true, false, false, false, false, false] rfl rfl (by kernel_rfl) (by decide) (fun K hK => ?_)
  refine goes_ Try.func66 (by kernel_rfl) rfl #[.int .i64 op, .int .i64 (lastP s.st 1), .int .i64 (lastP s.st 0)] (by rfl) rfl rfl (by simp only [List.map_toArray, List.map_cons, List.map_nil]; rfl) ?_
  with_reducible refine (SE.bothcc HS7.out HX.out).mono ?_
  rintro e w8 ⟨rfl, hs8⟩
  refine ⟨_, rfl, ?_⟩
  have HS8 := Aside0.mk hs8
  clear hs8
  clear c0 c1 c2 c3 c4 g1 g3 b0 b1 b2 h0 h1 h2 l0 l1 l2 i0 i1
  obtain ⟨c0, c1, c2, c3, c4, g1, g3⟩ := HS8.out.cells; obtain ⟨b0, b1, b2, h0, h1, h2, l0, l1, l2, i0, i1⟩ := HS8.out.boxes
  refine hK.out _ _ (i0) (fun hHeld => ?_)
  clear hK K
  refine norm_ (a' := ?_) ?_ ?_
  rotate_left
  · show Act.put _ (some 55) _ = _
    simp only [Act.put, List.setIfInBounds_toArray, List.set_cons_zero, List.set_cons_succ, i64_w, i32_w]
    rfl
  refine pure_ (i := 7) (N := some 48) (v := ?_) (a' := ?_) #[true, true, true, true, true, true, true, true, false, false, false, false] rfl rfl (by kernel_rfl) (fun _ _ _ h => h) (Or.inl ⟨by rfl, ?_⟩) ?_ ?_
  rotate_left
  · intro w'
    go_simp
    with_reducible rfl
  rotate_left
  · simp only [Act.put, List.setIfInBounds_toArray, List.set_cons_zero, List.set_cons_succ, i64_w, i32_w]
    rfl
  refine pure_ (i := 8) (N := some 56) (v := ?_) (a' := ?_) #[true, true, true, true, true, true, true, true, true, false, false, false] rfl rfl (by kernel_rfl) (fun _ _ _ h => h) (Or.inl ⟨by rfl, ?_⟩) ?_ ?_
  rotate_left
  · intro w'
    go_simp
    with_reducible rfl
  rotate_left
  · simp only [Act.put, List.setIfInBounds_toArray, List.set_cons_zero, List.set_cons_succ, i64_w, i32_w]
    rfl
  refine pure_ (i := 9) (N := some 57) (v := ?_) (a' := ?_) #[true, true, true, true, true, true, true, true, true, true, false, false] rfl rfl (by kernel_rfl) (fun _ _ _ h => h) (Or.inl ⟨by rfl, ?_⟩) ?_ ?_
  rotate_left
  · intro w'
    go_simp
    with_reducible rfl
  rotate_left
  · simp only [Act.put, List.setIfInBounds_toArray, List.set_cons_zero, List.set_cons_succ, i64_w, i32_w]
    rfl
  refine pure_ (i := 10) (N := some 9) (v := ?_) (a' := ?_) #[true, true, true, true, true, true, true, true, true, true, true, false] rfl rfl (by kernel_rfl) (fun _ _ _ h => h) (Or.inl ⟨by rfl, ?_⟩) ?_ ?_
  rotate_left
  · intro w'
    go_simp
    with_reducible rfl
  rotate_left
  · simp only [Act.put, List.setIfInBounds_toArray, List.set_cons_zero, List.set_cons_succ, i64_w, i32_w]
    rfl
  refine pure_ (i := 11) (N := some 10) (v := ?_) (a' := ?_) #[true, true, true, true, true, true, true, true, true, true, true, true] rfl rfl (by kernel_rfl) (fun _ _ _ h => h) (Or.inl ⟨by rfl, ?_⟩) ?_ ?_
  rotate_left
  · intro w'
    go_simp
    with_reducible rfl
  rotate_left
  · simp only [Act.put, List.setIfInBounds_toArray, List.set_cons_zero, List.set_cons_succ, i64_w, i32_w]
    rfl
  refine done_ (by kernel_rfl) ?_

  go_wp2_with (first
    | (go_at_call 63; (with_reducible refine ((HS8.out.step (below_alloc (Below.refl _ _) _)).left HFL.out 2 2 rfl (by have := HT.out; omega) HL.out.1 _ 1 1 [y] (lit_C w8 [y] (by simp) _ rfl) (by decide)).mono ?_); rintro e w9 ⟨B9, d9, rfl, hs9⟩; have HS9 := Aside0.mk hs9; clear hs9; clear c0 c1 c2 c3 c4 g1 g3 b0 b1 b2 h0 h1 h2 l0 l1 l2 i0 i1; obtain ⟨c0, c1, c2, c3, c4, g1, g3⟩ := HS9.out.cells; obtain ⟨b0, b1, b2, h0, h1, h2, l0, l1, l2, i0, i1⟩ := HS9.out.boxes))
  have HF := HS9.out.pc HFL.out (s.pc + 1)
  have hz := blk_set (blk_set (blk_set HF.res 0 (.int .i64 0)) 1 (.int .i64 0)) 2 (.int .i64 0)
  have e0 := (blk_cell hz 0).trans (show _ = some (Value.int .i64 0) from rfl)
  have e1 := (blk_cell hz 1).trans (show _ = some (Value.int .i64 0) from rfl)
  have e2 := (blk_cell hz 2).trans (show _ = some (Value.int .i64 0) from rfl)
  exact bodyPost_ret (v := .agg #[.int .i64 0, .int .i64 0, .int .i64 0]) (by simp [results, Try.results54, go_sem, e0, e1, e2]) rfl (HF.told 0 0 0 HFL.out HR.out rfl)
set_option maxHeartbeats 8000000 in
set_option maxRecDepth 100000 in
theorem step_hasno (W : World) (base g : Nat) (Ac : Option Addr) (cc : Nat) (code : List In) (p : Value) (f : Nat → Prop) (v1 v2 : Value) (s : St) (m : Mem) (h : Mach W base g Ac cc code p f v1 v2 s m) (hbase : base ≤ W.heap.size) (hs : mayP s code.length) (hlt : s.pc < (code.length : Int)) (hlen : code.length ≤ 1024) (op a : Int) (hop : inAt code s.pc = ⟨op, a⟩) (hh : hasP op a s.st.length = false) : Calls Try.prog 54 #[.pointer (some ⟨g, 0, none⟩)] W (StepPost W base g Ac cc code p f v1 v2 (stepP memK code s m)) := by
  have HH := Aside0.mk hh
  have HT := Aside0.mk (show 0 ≤ s.st.length from by omega)
  have HR := Aside0.mk (show stepP memK code s m = (s, m, 4, 0) from by unfold stepP; rw [if_neg (by omega), hop, if_pos hh])
  clear hh
  obtain ⟨hp0, hp1, hl, hcl, _⟩ := hs
  have hfl := h.mem.lt
  obtain ⟨B, d, rfl⟩ : ∃ B d, v1 = .slice B s.st.length d := own_slice h.stk
  obtain ⟨E, c, rfl⟩ : ∃ E c, v2 = .slice E s.ca.length c := own_slice h.cal
  have HFL := Aside0.mk (show ∀ k, f k → k < W.heap.size ∨ W.heap.size + 3 ≤ k from fun k hk => .inl (hfl k hk))

  obtain ⟨b, o, rfl, hbw, hcell⟩ := code_at h.cde (by omega)
  obtain ⟨x0, x1⟩ := hcell s.pc.toNat (by omega)
  rw [Int.toNat_of_nonneg hp0, hop] at x0 x1
  generalize hW : ((W.alloc (.cells #[.int .i64 0, .int .i64 0, .int .i64 0] 53)).alloc (.cells #[.int .i64 4, .int .i64 0, .int .i64 0] 53)) = W1 at *
  have hb1 := below_alloc (below_alloc (Below.refl W.heap.size W) (.cells #[.int .i64 0, .int .i64 0, .int .i64 0] 53)) (.cells #[.int .i64 4, .int .i64 0, .int .i64 0] 53)
  rw [hW] at hb1
  have hz1 : W1.heap.size = W.heap.size + 2 := by rw [← hW]; simp
  have y0 : W1.heap[W.heap.size]? = some (.cells #[.int .i64 0, .int .i64 0, .int .i64 0] 53 (0, 0)) := by
    rw [← hW]; exact (heap_alloc_old _ _ (by simp)).trans (heap_alloc_new W _)
  have y1 : W1.heap[W.heap.size + 1]? = some (.cells #[.int .i64 4, .int .i64 0, .int .i64 0] 53 (0, 0)) := by
    rw [← hW]
    have := heap_alloc_new (W.alloc (.cells #[.int .i64 0, .int .i64 0, .int .i64 0] 53)) (.cells #[.int .i64 4, .int .i64 0, .int .i64 0] 53)
    simpa using this
  have hm1 := h.step hb1
  have c0 : W1.cell? ⟨g, 0, none⟩ = some (.slice (some ⟨b, o, none⟩) code.length cc) := blk_cell hm1.box 0
  have c1 : W1.cell? ⟨g, 1, none⟩ = some (.int .i64 s.pc) := blk_cell hm1.box 1
  replace x0 := (hb1.cell (p := ⟨b, o + s.pc.toNat * 2, none⟩) hbw).trans x0
  replace x1 := (hb1.cell (p := ⟨b, o + s.pc.toNat * 2 + 1, none⟩) hbw).trans x1
  have t0 : (s.pc == (code.length : Int)) = false := by simp; omega
  have e1 : wrap64 (s.pc + 1) = s.pc + 1 := by unfold wrap64; omega
  have n0 : (W.heap.size = g) = False := eq_false (by have := h.gl; omega)
  have n1 : (g = W.heap.size) = False := eq_false (by have := h.gl; omega)
  have n2 : (W.heap.size + 2 = g) = False := eq_false (by have := h.gl; omega)
  have n3 : (g = W.heap.size + 2) = False := eq_false (by have := h.gl; omega)
  have HSE := Aside0.mk (fun (w3 : World) (hb : Below W1.heap.size W1 w3) hn => SE.init h hbase hb1 hz1 y0 y1 hb (w3 := w3) hn op a)
  have HW := Aside0.mk hW
  have HM1 := Aside0.mk hm1
  have HZ := Aside0.mk hz1
  have HG := Aside0.mk (show b < W1.heap.size from Nat.lt_of_lt_of_le hbw hb1.size)
  have HGL := Aside0.mk hm1.gl
  have k0 : (0 : Int) ≤ s.pc := hp0
  have k1 : s.pc < (code.length : Int) := hlt
  have HL := Aside0.mk (And.intro hl hcl)
  have h_cal := h.cal
  have h_mem := h.mem
  clear h hbase hfl hcell hW hb1 y0 y1 hm1 hp0 hp1 hlt hl hcl
  go_enter Try.func54, Try.ntmps54
  go_wp2
  rw [HW.out]
  go_quiet (fail)
  go_wp2
  refine start_ (n := 13) (S := fun w' => w'.cell? ⟨g, 0, none⟩ = some (.slice (some ⟨b, o, none⟩) code.length cc) ∧ w'.cell? ⟨g, 1, none⟩ = some (.int .i64 s.pc) ∧ w'.cell? ⟨b, o + s.pc.toNat * 2, none⟩ = some (.int .i64 op) ∧ w'.cell? ⟨b, o + s.pc.toNat * 2 + 1, none⟩ = some (.int .i64 a)) (ds := [12]) #[false, false, false, false, false, false, false, false, false, false, false, false, false] (by kernel_rfl) rfl rfl ⟨c0, c1, x0, x1⟩ (fun hHeld => ?_)
  refine pure_ (i := 0) (N := some 24) (v := ?_) (a' := ?_) #[true, false, false, false, false, false, false, false, false, false, false, false, false] rfl rfl (by kernel_rfl) (fun _ _ _ h => h) (Or.inl ⟨by rfl, ?_⟩) ?_ ?_
  rotate_left
  · intro w'
    go_simp
    with_reducible rfl
  rotate_left
  · simp only [Act.put, List.setIfInBounds_toArray, List.set_cons_zero, List.set_cons_succ, i64_w, i32_w]
    rfl
  refine pure_ (i := 1) (N := some 25) (v := ?_) (a' := ?_) #[true, true, false, false, false, false, false, false, false, false, false, false, false] rfl rfl (by kernel_rfl) (fun _ _ _ h => h) (Or.inl ⟨by rfl, ?_⟩) ?_ ?_
  rotate_left
  · intro w'
    go_simp
    with_reducible rfl
  rotate_left
  · simp only [Act.put, List.setIfInBounds_toArray, List.set_cons_zero, List.set_cons_succ, i64_w, i32_w]
    rfl
  refine pure_ (i := 2) (N := some 26) (v := ?_) (a' := ?_) #[true, true, true, false, false, false, false, false, false, false, false, false, false] rfl rfl (by kernel_rfl) (fun _ _ _ h => h) (Or.inl ⟨by rfl, ?_⟩) ?_ ?_
  rotate_left
  · intro w'
    go_simp
    with_reducible rfl
  rotate_left
  · simp only [Act.put, List.setIfInBounds_toArray, List.set_cons_zero, List.set_cons_succ, i64_w, i32_w]
    rfl
  refine pure_ (i := 4) (N := some 28) (v := ?_) (a' := ?_) #[true, true, true, false, true, false, false, false, false, false, false, false, false] rfl rfl (by kernel_rfl) (fun _ _ _ h => h) (Or.inl ⟨by rfl, ?_⟩) ?_ ?_
  rotate_left
  · intro w'
    go_simp
    with_reducible rfl
  rotate_left
  · simp only [Act.put, List.setIfInBounds_toArray, List.set_cons_zero, List.set_cons_succ, i64_w, i32_w]
    rfl
  refine pure_ (i := 5) (N := some 29) (v := ?_) (a' := ?_) #[true, true, true, false, true, true, false, false, false, false, false, false, false] rfl rfl (by kernel_rfl) (fun _ _ _ h => h) (Or.inl ⟨by rfl, ?_⟩) ?_ ?_
  rotate_left
  · intro w'
    go_simp
    with_reducible rfl
  rotate_left
  · simp only [Act.put, List.setIfInBounds_toArray, List.set_cons_zero, List.set_cons_succ, i64_w, i32_w]
    rfl
  refine pure_ (i := 6) (N := some 30) (v := ?_) (a' := ?_) #[true, true, true, false, true, true, true, false, false, false, false, false, false] rfl rfl (by kernel_rfl) (fun _ _ _ h => h) (Or.inl ⟨by rfl, ?_⟩) ?_ ?_
  rotate_left
  · intro w'
    go_simp
    with_reducible rfl
  rotate_left
  · simp only [Act.put, List.setIfInBounds_toArray, List.set_cons_zero, List.set_cons_succ, i64_w, i32_w]
    rfl
  refine pure_ (i := 7) (N := some 31) (v := ?_) (a' := ?_) #[true, true, true, false, true, true, true, true, false, false, false, false, false] rfl rfl (by kernel_rfl) (fun _ _ _ h => h) (Or.inl ⟨by rfl, ?_⟩) ?_ ?_
  rotate_left
  · intro w'
    go_simp
    with_reducible rfl
  rotate_left
  · simp only [Act.put, List.setIfInBounds_toArray, List.set_cons_zero, List.set_cons_succ, i64_w, i32_w]
    rfl
  refine take_ (i := 3) (N := some 27) (v := ?_) (a' := ?_) #[true, true, true, true, true, true, true, true, false, false, false, false, false] rfl rfl (by kernel_rfl) (fun _ _ _ h => h) (Or.inl ⟨by rfl, ?_⟩) hHeld ?_ ?_
  rotate_left
  · rintro w' ⟨s0, s1, s2, s3⟩
    go_simp
    with_reducible rfl
  rotate_left
  · simp only [Act.put, List.setIfInBounds_toArray, List.set_cons_zero, List.set_cons_succ, i64_w, i32_w]
    rfl
  refine take_ (i := 8) (N := some 32) (v := ?_) (a' := ?_) #[true, true, true, true, true, true, true, true, true, false, false, false, false] rfl rfl (by kernel_rfl) (fun _ _ _ h => h) (Or.inl ⟨by rfl, ?_⟩) hHeld ?_ ?_
  rotate_left
  · rintro w' ⟨s0, s1, s2, s3⟩
    go_simp
    with_reducible rfl
  rotate_left
  · simp only [Act.put, List.setIfInBounds_toArray, List.set_cons_zero, List.set_cons_succ, i64_w, i32_w]
    rfl
  refine pure_ (i := 9) (N := some 33) (v := ?_) (a' := ?_) #[true, true, true, true, true, true, true, true, true, true, false, false, false] rfl rfl (by kernel_rfl) (fun _ _ _ h => h) (Or.inl ⟨by rfl, ?_⟩) ?_ ?_
  rotate_left
  · intro w'
    go_simp
    with_reducible rfl
  rotate_left
  · simp only [Act.put, List.setIfInBounds_toArray, List.set_cons_zero, List.set_cons_succ, i64_w, i32_w]
    rfl
  refine take_ (i := 10) (N := some 34) (v := ?_) (a' := ?_) #[true, true, true, true, true, true, true, true, true, true, true, false, false] rfl rfl (by kernel_rfl) (fun _ _ _ h => h) (Or.inl ⟨by rfl, ?_⟩) hHeld ?_ ?_
  rotate_left
  · rintro w' ⟨s0, s1, s2, s3⟩
    go_simp
    with_reducible rfl
  rotate_left
  · simp only [Act.put, List.setIfInBounds_toArray, List.set_cons_zero, List.set_cons_succ, i64_w, i32_w]
    rfl
  refine one_ (i := 11) (N := some 4) #[true, true, true, true, true, true, true, true, true, true, true, true, false] rfl rfl (by kernel_rfl) (by decide) (fun K hK => ?_)
  refine value_ (w1 := ?_) (v := ?_) (by rfl) rfl ?_ ?_
  rotate_left 2
  · go_simp
    constructor
    · rfl
    · rfl
  have hb3 : Below W1.heap.size W1 ((W1.drewN (nq + 1)).alloc (.cells #[.int .i64 0, .int .i64 0] 27)) := below_alloc (w := W1) (pw_below_drewN (Below.refl W1.heap.size W1) (nq + 1)) _
  have hn3 : ((W1.drewN (nq + 1)).alloc (.cells #[.int .i64 0, .int .i64 0] 27)).heap[W.heap.size + 2]? = some (.cells #[.int .i64 0, .int .i64 0] 27 (0, 0)) := by rw [← hz1]; exact heap_alloc_new (W1.drewN (nq + 1)) _
  generalize (W1.drewN (nq + 1)).alloc (.cells #[.int .i64 0, .int .i64 0] 27) = w3 at *
  have HB3 := Aside0.mk hb3
  have i0 := blk_cell hn3 0
  have i1 := blk_cell hn3 1
  have j0 := blk_frozen hn3 0
  have j1 := blk_frozen hn3 1
  have hs4 := HSE.out w3 hb3 hn3
  clear hb3 hn3
  have HS4 := Aside0.mk hs4
  clear hs4
  refine hK.out _ _ ⟨(HB3.out.cell (p := ⟨g, 0, none⟩) HGL.out).trans c0, (HB3.out.cell (p := ⟨g, 1, none⟩) HGL.out).trans c1, (HB3.out.cell (p := ⟨b, o + s.pc.toNat * 2, none⟩) HG.out).trans x0, (HB3.out.cell (p := ⟨b, o + s.pc.toNat * 2 + 1, none⟩) HG.out).trans x1⟩ (fun hHeld => ?_)
  clear hK K
  refine norm_ (a' := ?_) ?_ ?_
  rotate_left
  · show Act.put _ (some 4) _ = _
    simp only [Act.put, List.setIfInBounds_toArray, List.set_cons_zero, List.set_cons_succ, i64_w, i32_w]
    rfl
  refine last_ (i := 12) (N := none) #[true, true, true, true, true, true, true, true, true, true, true, true, true] rfl rfl (by kernel_rfl) (by decide) (fun K hK => ?_)
  refine skip_ (w1 := ?_) (by rfl) rfl ?_ ?_
  rotate_left
  · go_simp
    rfl
  refine hK.out _ _ ?_
  clear hK K
  refine done_ (by kernel_rfl) ?_

  have HS4' : Aside0 _ := HS4
  clear HS4
  generalize (w3.setCell ⟨W.heap.size + 2, 0, none⟩ (.int .i64 op)).setCell ⟨W.heap.size + 2, 1, none⟩ (.int .i64 a) = w4 at *
  have HS4 := HS4'
  clear HS4' c0 c1 x0 x1 i0 i1 j0 j1 HSE hHeld HB3
  obtain ⟨c0, c1, c2, c3, c4, g1, g3⟩ := HS4.out.cells; obtain ⟨b0, b1, b2, h0, h1, h2, l0, l1, l2, i0, i1⟩ := HS4.out.boxes
  go_wp2_with (first
    | (go_at_call 62; (with_reducible refine (has_calls _ g B s.st.length d op a c2 HL.out.1).mono ?_); rintro e w5 ⟨he, hb5⟩; rw [HH.out] at he; subst he; have HS5 := Aside0.mk (HS4.out.step hb5); clear hb5 c0 c1 c2 c3 c4 g1 g3 b0 b1 b2 h0 h1 h2 l0 l1 l2 i0 i1; obtain ⟨c0, c1, c2, c3, c4, g1, g3⟩ := HS5.out.cells; obtain ⟨b0, b1, b2, h0, h1, h2, l0, l1, l2, i0, i1⟩ := HS5.out.boxes))
  have HF := HS5.out
  have hz := blk_set (blk_set (blk_set HF.res 0 (.int .i64 4)) 1 (.int .i64 0)) 2 (.int .i64 0)
  have e0 := (blk_cell hz 0).trans (show _ = some (Value.int .i64 4) from rfl)
  have e1 := (blk_cell hz 1).trans (show _ = some (Value.int .i64 0) from rfl)
  have e2 := (blk_cell hz 2).trans (show _ = some (Value.int .i64 0) from rfl)
  exact bodyPost_ret (v := .agg #[.int .i64 4, .int .i64 0, .int .i64 0]) (by simp [results, Try.results54, go_sem, e0, e1, e2]) rfl (HF.told 4 0 0 HFL.out HR.out rfl)
set_option maxHeartbeats 8000000 in
set_option maxRecDepth 100000 in
theorem step_end (W : World) (base g : Nat) (Ac : Option Addr) (cc : Nat) (code : List In) (p : Value) (f : Nat → Prop) (v1 v2 : Value) (s : St) (m : Mem) (h : Mach W base g Ac cc code p f v1 v2 s m) (hbase : base ≤ W.heap.size) (hs : mayP s code.length) (hpc : s.pc = (code.length : Int)) (hlen : code.length ≤ 1024) : Calls Try.prog 54 #[.pointer (some ⟨g, 0, none⟩)] W (StepPost W base g Ac cc code p f v1 v2 (stepP memK code s m)) := by
  have hfl := h.mem.lt
  have HFL := Aside0.mk (show ∀ k, f k → k < W.heap.size ∨ W.heap.size + 3 ≤ k from fun k hk => .inl (hfl k hk))
  have HR := Aside0.mk (show stepP memK code s m = (s, m, 4, 0) from by unfold stepP; rw [if_pos hpc])
  generalize hW : ((W.alloc (.cells #[.int .i64 0, .int .i64 0, .int .i64 0] 53)).alloc (.cells #[.int .i64 4, .int .i64 0, .int .i64 0] 53)) = W1 at *
  have hb1 := below_alloc (below_alloc (Below.refl W.heap.size W) (.cells #[.int .i64 0, .int .i64 0, .int .i64 0] 53)) (.cells #[.int .i64 4, .int .i64 0, .int .i64 0] 53)
  rw [hW] at hb1
  have y0 : W1.heap[W.heap.size]? = some (.cells #[.int .i64 0, .int .i64 0, .int .i64 0] 53 (0, 0)) := by
    rw [← hW]; exact (heap_alloc_old _ _ (by simp)).trans (heap_alloc_new W _)
  have y1 : W1.heap[W.heap.size + 1]? = some (.cells #[.int .i64 4, .int .i64 0, .int .i64 0] 53 (0, 0)) := by
    rw [← hW]
    have := heap_alloc_new (W.alloc (.cells #[.int .i64 0, .int .i64 0, .int .i64 0] 53)) (.cells #[.int .i64 4, .int .i64 0, .int .i64 0] 53)
    simpa using this
  have hm1 := h.step hb1
  have c0 : W1.cell? ⟨g, 0, none⟩ = some (.slice Ac code.length cc) := blk_cell hm1.box 0
  have c1 : W1.cell? ⟨g, 1, none⟩ = some (.int .i64 s.pc) := blk_cell hm1.box 1
  have b0 := blk_cell y0 0
  have b1 := blk_cell y0 1
  have b2 := blk_cell y0 2
  have h0 := blk_frozen y0 0
  have h1 := blk_frozen y0 1
  have h2 := blk_frozen y0 2
  have l0 := blk_cell y1 0
  have l1 := blk_cell y1 1
  have l2 := blk_cell y1 2
  have t0 : (s.pc == (code.length : Int)) = true := by simpa using hpc
  have HW := Aside0.mk hW
  have HT := Aside0.mk (fun q : Nat => told_end h hbase hb1 y0 q)
  have HY := Aside0.mk y0
  clear h hbase hfl hW hb1 y0 y1 hm1 hpc
  go_enter Try.func54, Try.ntmps54
  go_wp2
  rw [HW.out]
  go_quiet (fail)
  go_wp2
  have hz := blk_set (blk_set (blk_set (w := W1.drewN nq) HY.out 0 (.int .i64 4)) 1 (.int .i64 0)) 2 (.int .i64 0)
  have e0 := (blk_cell hz 0).trans (show _ = some (Value.int .i64 4) from rfl)
  have e1 := (blk_cell hz 1).trans (show _ = some (Value.int .i64 0) from rfl)
  have e2 := (blk_cell hz 2).trans (show _ = some (Value.int .i64 0) from rfl)
  rw [HR.out]
  exact bodyPost_ret (v := .agg #[.int .i64 4, .int .i64 0, .int .i64 0]) (by simp [results, Try.results54, go_sem, e0, e1, e2]) rfl (HT.out nq)
end Go.Proofs.Ytkjdhhdkfbkgpaa.VmW
