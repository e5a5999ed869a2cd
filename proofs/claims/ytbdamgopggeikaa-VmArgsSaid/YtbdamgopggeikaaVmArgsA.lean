/- The law VmArgs, walked: two of its ways. -/
import Derived.Test.YtbdamgopggeikaaVmSem
import Derived.Deep.CutRange
import Derived.Deep.DeepCutAuto
namespace Go.Proofs.Ytbdamgopggeikaa.VmW
open Go.RowKit Go.Proofs.YtbdamgopggeikaaW.PrintWords Go.Proofs.YtbdamgopggeikaaW.PrintMore Go.Proofs.YtbdamgopggeikaaW.PrintLast Go.Proofs.Ytbdamgopggeikaa.Pvm
set_option linter.unusedVariables false
set_option linter.unusedSimpArgs false
section
variable {w0 W : World} {bs : Bx} {os : Ro}
theorem LE.subb (h : LE w0 bs os W) (bs' : Bx) (hb : ∀ b ∈ bs', b ∈ bs) : LE w0 bs' [] W := ⟨h.below, fun b hb' => h.box b (hb b hb'), by simp⟩
theorem LE.apart (h : LE w0 bs os W) {n n' : Nat} {cs cs' : Array Value} {t t' : Nat} (hm : (n, cs, t) ∈ bs) (hm' : (n', cs', t') ∈ bs) (ht : t ≠ t') : n ≠ n' := by
  rintro rfl
  have h1 := (h.b hm).symm.trans (h.b hm')
  injection h1 with h1
  injection h1 with _ h1
  exact ht h1
theorem LE.set1 (h : LE w0 [] [] W) {n : Nat} (hn : w0.heap.size ≤ n) {i : Nat} {v : Value} : LE w0 [] [] (W.setCell ⟨n, i, none⟩ v) :=
  ⟨h.below.setCell (p := ⟨n, i, none⟩) hn v, by simp, by simp⟩
end
theorem zsameE {w0 W : World} {bs : Bx} {os : Ro} (h : LE w0 bs os W) : Calls Try.prog 15 #[.agg #[.int .i64 0, .slice none 0 0, .slice none 0 0], .agg #[.int .i64 0, .slice none 0 0, .slice none 0 0]] W fun e W' => e = .returned (.bool true) ∧ LE w0 bs os W' :=
  rsameE (s := ⟨0, [], []⟩) (t := ⟨0, [], []⟩) h ⟨Kd.C_nil _ _, Nat.le_refl _⟩ ⟨Kd.C_nil _ _, Nat.le_refl _⟩ ⟨Kd.C_nil _ _, Nat.le_refl _⟩ ⟨Kd.C_nil _ _, Nat.le_refl _⟩ (by decide) (by decide) (by decide)
set_option maxHeartbeats 8000000 in
set_option maxRecDepth 100000 in
theorem args_ok_out (A0 : Option Addr) (c0 : Nat) (code : List In) (pc : Int) (A2 : Option Addr) (c2 : Nat) (st : List Int) (A3 : Option Addr) (c3 : Nat) (ca : List Int) (mem : ByteArray) (fuel : Int) (w : World) (hr0 : Kd.C kIn w A0 code.length code) (hc0 : code.length ≤ c0) (hr2 : Kd.C (Kd.int .i64) w A2 st.length st) (hc2 : st.length ≤ c2) (hr3 : Kd.C (Kd.int .i64) w A3 ca.length ca) (hc3 : ca.length ≤ c3) (hmem : mem.size ≤ 140737488355328) (hx : (chkP code).1 = 0) (hf : fuel < 0 ∨ 1048576 < fuel) :
    Calls Try.prog 6 #[.agg #[.slice A0 code.length c0, .int .i64 pc, .slice A2 st.length c2, .slice A3 ca.length c3, .string mem], .int .i64 fuel] w (BPost w true) := by
  have hu := Try.underlying25
  have hu2 := Try.underlying33
  have hu3 := Try.underlying27
  have HE0 := Aside0.mk ((LE.start w).boxed #[.slice A0 code.length c0, .int .i64 pc, .slice A2 st.length c2, .slice A3 ca.length c3, .string mem] 27 _ rfl (by decide))
  have H0 := Aside0.mk hr0
  have H2 := Aside0.mk hr2
  have H3 := Aside0.mk hr3
  have HC := Aside0.mk (And.intro hc0 (And.intro hc2 (And.intro hc3 hmem)))
  clear hr0 hr2 hr3 hc0 hc2 hc3 hmem
  rcases hxy : chkP code with ⟨x, y⟩
  rw [hxy] at hx
  dsimp only at hx
  subst hx
  have HK := Aside0.mk hxy
  have HNE := Aside0.mk (show (if (chkP code).1 = 0 then 1 else (chkP code).1) = 1 from by rw [hxy]; rfl)
  have HF := Aside0.mk hf
  have HRA := Aside0.mk (fun m : Mem => show runAll code ⟨pc, st, ca⟩ m fuel = ⟨⟨0, [], []⟩, m, 0, 0, 0, 1⟩ from by unfold runAll; rw [hxy]; rw [if_neg (by simp), if_pos (hf.elim Or.inl (fun h => Or.inr (Or.inl h)))])
  clear hxy hf
  go_enter Try.func6, Try.ntmps6
  go_upto_region 7 with (first
    | (go_at_call 13; (with_reducible refine (nilE (s := ⟨pc, st, ca⟩) HE0.out H0.out HC.out.1 H3.out HNE.out).mono ?_); rintro e w1 ⟨rfl, hE⟩; have HE1 := Aside0.mk hE; have hE2 := ((HE1.out.boxed #[.int .i64 0, .slice none 0 0, .slice none 0 0] 25 (w1.heap.size) rfl (by decide)).boxed #[.int .i64 0, .int .i64 0, .int .i64 0] 33 (w1.heap.size + 1) (by simp) (by decide)); have a0 := hE2.c (List.mem_cons_of_mem _ (List.mem_cons_of_mem _ List.mem_cons_self)) 0; have a1 := hE2.c (List.mem_cons_of_mem _ (List.mem_cons_of_mem _ List.mem_cons_self)) 1; have a2 := hE2.c (List.mem_cons_of_mem _ (List.mem_cons_of_mem _ List.mem_cons_self)) 2; have a3 := hE2.c (List.mem_cons_of_mem _ (List.mem_cons_of_mem _ List.mem_cons_self)) 3; have a4 := hE2.c (List.mem_cons_of_mem _ (List.mem_cons_of_mem _ List.mem_cons_self)) 4; have b0 := hE2.c (List.mem_cons_of_mem _ List.mem_cons_self) 0; have b1 := hE2.c (List.mem_cons_of_mem _ List.mem_cons_self) 1; have b2 := hE2.c (List.mem_cons_of_mem _ List.mem_cons_self) 2; have d0 := hE2.c List.mem_cons_self 0; have d1 := hE2.c List.mem_cons_self 1; have d2 := hE2.c List.mem_cons_self 2; clear hE hE2)
    | (go_at_call 16; (with_reducible refine (rchkE ((HE1.out.boxed #[.int .i64 0, .slice none 0 0, .slice none 0 0] 25 (w1.heap.size) rfl (by decide)).boxed #[.int .i64 0, .int .i64 0, .int .i64 0] 33 (w1.heap.size + 1) (by simp) (by decide)) (Kd.C_below H0.out ((HE1.out.boxed #[.int .i64 0, .slice none 0 0, .slice none 0 0] 25 (w1.heap.size) rfl (by decide)).boxed #[.int .i64 0, .int .i64 0, .int .i64 0] 33 (w1.heap.size + 1) (by simp) (by decide)).below) HC.out.1 HK.out).mono ?_); rintro e w2 ⟨rfl, hE⟩; have HE2 := Aside0.mk hE; clear a0 a1 a2 a3 a4; clear b0 b1 b2 d0 d1 d2; have a0 := hE.c (List.mem_cons_of_mem _ (List.mem_cons_of_mem _ List.mem_cons_self)) 0; have a1 := hE.c (List.mem_cons_of_mem _ (List.mem_cons_of_mem _ List.mem_cons_self)) 1; have a2 := hE.c (List.mem_cons_of_mem _ (List.mem_cons_of_mem _ List.mem_cons_self)) 2; have a3 := hE.c (List.mem_cons_of_mem _ (List.mem_cons_of_mem _ List.mem_cons_self)) 3; have a4 := hE.c (List.mem_cons_of_mem _ (List.mem_cons_of_mem _ List.mem_cons_self)) 4; have b0 := hE.c (List.mem_cons_of_mem _ List.mem_cons_self) 0; have b1 := hE.c (List.mem_cons_of_mem _ List.mem_cons_self) 1; have b2 := hE.c (List.mem_cons_of_mem _ List.mem_cons_self) 2; have d0 := hE.c List.mem_cons_self 0; have d1 := hE.c List.mem_cons_self 1; have d2 := hE.c List.mem_cons_self 2; clear hE)
    | (go_at_call 15; (with_reducible refine (zsameE HE2.out).mono ?_); rintro e w3 ⟨rfl, hE⟩; have HE3 := Aside0.mk hE; clear a0 a1 a2 a3 a4; clear b0 b1 b2 d0 d1 d2; have a0 := hE.c (List.mem_cons_of_mem _ (List.mem_cons_of_mem _ List.mem_cons_self)) 0; have a1 := hE.c (List.mem_cons_of_mem _ (List.mem_cons_of_mem _ List.mem_cons_self)) 1; have a2 := hE.c (List.mem_cons_of_mem _ (List.mem_cons_of_mem _ List.mem_cons_self)) 2; have a3 := hE.c (List.mem_cons_of_mem _ (List.mem_cons_of_mem _ List.mem_cons_self)) 3; have a4 := hE.c (List.mem_cons_of_mem _ (List.mem_cons_of_mem _ List.mem_cons_self)) 4; clear hE))
  go_cut [49] from 44 to 49 (fun s49 wx => s49 = .bool true ∧ w3 = wx)
  case first =>
    rcases HF.out with hf | hf
    · have t0 : decide (fuel < 0) = true := decide_eq_true hf
      clear hf
      go_wp2
      go_meet
      exact ⟨rfl, rfl⟩
    · have t0 : decide (fuel < 0) = false := decide_eq_false (by omega)
      have t1 : decide (fuel > 1048576) = true := decide_eq_true hf
      have t2 : decide (1048576 < fuel) = true := decide_eq_true hf
      clear hf
      go_wp2
      go_meet
      exact ⟨rfl, rfl⟩
  obtain ⟨rfl, hcw⟩ := hcut
  subst hcw
  go_wp2
  have HX := Aside0.mk HE3.out
  clear HE0 HE1 HE2 HE3 HK HNE
  refine start_ (n := 19) (S := fun w' => w'.cell? ⟨w.heap.size, 0, none⟩ = some (.slice A0 code.length c0) ∧ w'.cell? ⟨w.heap.size, 1, none⟩ = some (.int .i64 pc) ∧ w'.cell? ⟨w.heap.size, 2, none⟩ = some (.slice A2 st.length c2) ∧ w'.cell? ⟨w.heap.size, 3, none⟩ = some (.slice A3 ca.length c3) ∧ w'.cell? ⟨w.heap.size, 4, none⟩ = some (.string mem)) (ds := [16, 17]) #[false, false, false, false, false, false, false, false, false, false, false, false, false, false, false, false, false, false, false] (by kernel_rfl) rfl rfl ⟨a0, a1, a2, a3, a4⟩ (fun hHeld => ?_)
  refine pure_ (i := 0) (N := some 51) (v := ?_) (a' := ?_) #[true, false, false, false, false, false, false, false, false, false, false, false, false, false, false, false, false, false, false] rfl rfl (by kernel_rfl) (fun _ _ _ h => h) (Or.inl ⟨by rfl, ?_⟩) ?_ ?_
  rotate_left
  · intro w'
    go_simp
    with_reducible rfl
  rotate_left
  · simp only [Act.put, List.setIfInBounds_toArray, List.set_cons_zero, List.set_cons_succ, i64_w, i32_w]
    rfl
  refine pure_ (i := 2) (N := some 53) (v := ?_) (a' := ?_) #[true, false, true, false, false, false, false, false, false, false, false, false, false, false, false, false, false, false, false] rfl rfl (by kernel_rfl) (fun _ _ _ h => h) (Or.inl ⟨by rfl, ?_⟩) ?_ ?_
  rotate_left
  · intro w'
    go_simp
    with_reducible rfl
  rotate_left
  · simp only [Act.put, List.setIfInBounds_toArray, List.set_cons_zero, List.set_cons_succ, i64_w, i32_w]
    rfl
  refine pure_ (i := 4) (N := some 55) (v := ?_) (a' := ?_) #[true, false, true, false, true, false, false, false, false, false, false, false, false, false, false, false, false, false, false] rfl rfl (by kernel_rfl) (fun _ _ _ h => h) (Or.inl ⟨by rfl, ?_⟩) ?_ ?_
  rotate_left
  · intro w'
    go_simp
    with_reducible rfl
  rotate_left
  · simp only [Act.put, List.setIfInBounds_toArray, List.set_cons_zero, List.set_cons_succ, i64_w, i32_w]
    rfl
  refine pure_ (i := 8) (N := some 59) (v := ?_) (a' := ?_) #[true, false, true, false, true, false, false, false, true, false, false, false, false, false, false, false, false, false, false] rfl rfl (by kernel_rfl) (fun _ _ _ h => h) (Or.inl ⟨by rfl, ?_⟩) ?_ ?_
  rotate_left
  · intro w'
    go_simp
    with_reducible rfl
  rotate_left
  · simp only [Act.put, List.setIfInBounds_toArray, List.set_cons_zero, List.set_cons_succ, i64_w, i32_w]
    rfl
  refine take_ (i := 1) (N := some 52) (v := ?_) (a' := ?_) #[true, true, true, false, true, false, false, false, true, false, false, false, false, false, false, false, false, false, false] rfl rfl (by kernel_rfl) (fun _ _ _ h => h) (Or.inl ⟨by rfl, ?_⟩) hHeld ?_ ?_
  rotate_left
  · rintro w' ⟨s0, s1, s2, s3, s4⟩
    go_simp
    with_reducible rfl
  rotate_left
  · simp only [Act.put, List.setIfInBounds_toArray, List.set_cons_zero, List.set_cons_succ, i64_w, i32_w]
    rfl
  refine take_ (i := 3) (N := some 54) (v := ?_) (a' := ?_) #[true, true, true, true, true, false, false, false, true, false, false, false, false, false, false, false, false, false, false] rfl rfl (by kernel_rfl) (fun _ _ _ h => h) (Or.inl ⟨by rfl, ?_⟩) hHeld ?_ ?_
  rotate_left
  · rintro w' ⟨s0, s1, s2, s3, s4⟩
    go_simp
    with_reducible rfl
  rotate_left
  · simp only [Act.put, List.setIfInBounds_toArray, List.set_cons_zero, List.set_cons_succ, i64_w, i32_w]
    rfl
  refine take_ (i := 5) (N := some 56) (v := ?_) (a' := ?_) #[true, true, true, true, true, true, false, false, true, false, false, false, false, false, false, false, false, false, false] rfl rfl (by kernel_rfl) (fun _ _ _ h => h) (Or.inl ⟨by rfl, ?_⟩) hHeld ?_ ?_
  rotate_left
  · rintro w' ⟨s0, s1, s2, s3, s4⟩
    go_simp
    with_reducible rfl
  rotate_left
  · simp only [Act.put, List.setIfInBounds_toArray, List.set_cons_zero, List.set_cons_succ, i64_w, i32_w]
    rfl
  refine join_ (σ := Nat × Nat × Nat × Option Addr × Nat × Option Addr × Nat) 3 #[true, true, true, true, true, true, true, true, true, true, true, true, true, true, true, true, false, false, false] (fun s => [(57, .pointer (some ⟨s.2.2.1, 0, none⟩)), (58, .iface 29 (.pointer (some ⟨s.2.2.1, 0, none⟩))), (60, .tuple #[.agg #[.int .i64 0, .slice s.2.2.2.1 0 s.2.2.2.2.1, .slice s.2.2.2.2.2.1 0 s.2.2.2.2.2.2], .agg #[.int .i64 0, .int .i64 0, .int .i64 0], .int .i64 1]), (50, .tuple #[.agg #[.int .i64 0, .slice s.2.2.2.1 0 s.2.2.2.2.1, .slice s.2.2.2.2.2.1 0 s.2.2.2.2.2.2], .agg #[.int .i64 0, .int .i64 0, .int .i64 0], .int .i64 1]), (61, .agg #[.int .i64 0, .slice s.2.2.2.1 0 s.2.2.2.2.1, .slice s.2.2.2.2.2.1 0 s.2.2.2.2.2.2]), (62, .agg #[.int .i64 0, .int .i64 0, .int .i64 0]), (63, .int .i64 1), (10, .pointer (some ⟨s.1, 0, none⟩)), (11, .pointer (some ⟨s.2.1, 0, none⟩))]) (fun s w' => LE w [(s.1, #[.int .i64 0, .slice none 0 0, .slice none 0 0], 25), (s.2.1, #[.int .i64 0, .int .i64 0, .int .i64 0], 33), (w.heap.size, #[.slice A0 code.length c0, .int .i64 pc, .slice A2 st.length c2, .slice A3 ca.length c3, .string mem], 27)] [] w' ∧ w.heap.size ≤ s.1 ∧ w.heap.size ≤ s.2.1) ?_ ?_
  rotate_left
  · intro hCont
    refine three_ (i := 6) (j := 14) (k := 15) (Ni := some 57) (Nj := some 10) (Nk := some 11) #[true, true, true, true, true, true, true, false, true, false, false, false, false, false, false, false, false, false, false] #[true, true, true, true, true, true, false, false, true, false, false, false, false, false, true, false, false, false, false] #[true, true, true, true, true, true, false, false, true, false, false, false, false, false, false, true, false, false, false] rfl rfl rfl rfl rfl rfl (by kernel_rfl) (by decide) (by decide) (by decide) (fun K hK => ?_) (fun K hK => ?_) (fun K hK => ?_)
    · skip
      refine goes_ Try.func11 (by kernel_rfl) rfl #[.string mem] (by rfl) rfl rfl (by simp only [List.map_toArray, List.map_cons, List.map_nil]; rfl) ?_
      with_reducible refine (fillE (HX.out.step (below_drew (Below.refl _ _))) mem HC.out.2.2.2 (w3.heap.size) (by first | rfl | simp)).mono ?_
      rintro e w4 ⟨v, rfl, hE, hM, _⟩
      refine ⟨_, rfl, ?_⟩
      have HX := Aside0.mk hE
      have HM := Aside0.mk hM
      clear hE hM
      refine hK.out _ _ ⟨(HX.out.c (List.mem_cons_of_mem _ (List.mem_cons_of_mem _ List.mem_cons_self)) 0), (HX.out.c (List.mem_cons_of_mem _ (List.mem_cons_of_mem _ List.mem_cons_self)) 1), (HX.out.c (List.mem_cons_of_mem _ (List.mem_cons_of_mem _ List.mem_cons_self)) 2), (HX.out.c (List.mem_cons_of_mem _ (List.mem_cons_of_mem _ List.mem_cons_self)) 3), (HX.out.c (List.mem_cons_of_mem _ (List.mem_cons_of_mem _ List.mem_cons_self)) 4)⟩ (fun hHeld => ?_)
      clear hK K
      refine norm_ (a' := ?_) ?_ ?_
      rotate_left
      · show Act.put _ (some 57) _ = _
        simp only [Act.put, List.setIfInBounds_toArray, List.set_cons_zero, List.set_cons_succ, i64_w, i32_w]
        rfl
      refine pure_ (i := 7) (N := some 58) (v := ?_) (a' := ?_) #[true, true, true, true, true, true, true, true, true, false, false, false, false, false, false, false, false, false, false] rfl rfl (by kernel_rfl) (fun _ _ _ h => h) (Or.inl ⟨by rfl, ?_⟩) ?_ ?_
      rotate_left
      · intro w'
        go_simp
        with_reducible rfl
      rotate_left
      · simp only [Act.put, List.setIfInBounds_toArray, List.set_cons_zero, List.set_cons_succ, i64_w, i32_w]
        rfl
      refine three_ (i := 9) (j := 14) (k := 15) (Ni := some 60) (Nj := some 10) (Nk := some 11) #[true, true, true, true, true, true, true, true, true, true, false, false, false, false, false, false, false, false, false] #[true, true, true, true, true, true, true, true, true, false, false, false, false, false, true, false, false, false, false] #[true, true, true, true, true, true, true, true, true, false, false, false, false, false, false, true, false, false, false] rfl rfl rfl rfl rfl rfl (by kernel_rfl) (by decide) (by decide) (by decide) (fun K hK => ?_) (fun K hK => ?_) (fun K hK => ?_)
      · skip
        refine goes_ Try.func13 (by kernel_rfl) rfl #[.slice A0 code.length c0, .agg #[.int .i64 pc, .slice A2 st.length c2, .slice A3 ca.length c3], .iface 29 (.pointer (some ⟨w3.heap.size, 0, none⟩)), .int .i64 fuel] (by rfl) rfl rfl (by simp only [List.map_toArray, List.map_cons, List.map_nil]; rfl) ?_
        with_reducible refine (runE (s := ⟨pc, st, ca⟩) HX.out (Kd.C_below H0.out HX.out.below) HC.out.1 (Kd.C_below H2.out HX.out.below) (Kd.C_below H3.out HX.out.below) HM.out (far_in H0.out HM.out) (HRA.out _)).mono ?_
        rintro e w5 ⟨B1, d1_, B2, d2_, v5, rfl, hE, _, _, _⟩
        refine ⟨_, rfl, ?_⟩
        have HX := Aside0.mk (hE.subb _ (fun b hb => hb))
        clear hE
        refine hK.out _ _ ⟨(HX.out.c (List.mem_cons_of_mem _ (List.mem_cons_of_mem _ List.mem_cons_self)) 0), (HX.out.c (List.mem_cons_of_mem _ (List.mem_cons_of_mem _ List.mem_cons_self)) 1), (HX.out.c (List.mem_cons_of_mem _ (List.mem_cons_of_mem _ List.mem_cons_self)) 2), (HX.out.c (List.mem_cons_of_mem _ (List.mem_cons_of_mem _ List.mem_cons_self)) 3), (HX.out.c (List.mem_cons_of_mem _ (List.mem_cons_of_mem _ List.mem_cons_self)) 4)⟩ (fun hHeld => ?_)
        clear hK K
        refine norm_ (a' := ?_) ?_ ?_
        rotate_left
        · show Act.put _ (some 60) _ = _
          simp only [Act.put, List.setIfInBounds_toArray, List.set_cons_zero, List.set_cons_succ, i64_w, i32_w]
          rfl
        refine pure_ (i := 10) (N := some 50) (v := ?_) (a' := ?_) #[true, true, true, true, true, true, true, true, true, true, true, false, false, false, false, false, false, false, false] rfl rfl (by kernel_rfl) (fun _ _ _ h => h) (Or.inl ⟨by rfl, ?_⟩) ?_ ?_
        rotate_left
        · intro w'
          go_simp
          with_reducible rfl
        rotate_left
        · simp only [Act.put, List.setIfInBounds_toArray, List.set_cons_zero, List.set_cons_succ, i64_w, i32_w]
          rfl
        refine pure_ (i := 11) (N := some 61) (v := ?_) (a' := ?_) #[true, true, true, true, true, true, true, true, true, true, true, true, false, false, false, false, false, false, false] rfl rfl (by kernel_rfl) (fun _ _ _ h => h) (Or.inl ⟨by rfl, ?_⟩) ?_ ?_
        rotate_left
        · intro w'
          go_simp
          with_reducible rfl
        rotate_left
        · simp only [Act.put, List.setIfInBounds_toArray, List.set_cons_zero, List.set_cons_succ, i64_w, i32_w]
          rfl
        refine pure_ (i := 12) (N := some 62) (v := ?_) (a' := ?_) #[true, true, true, true, true, true, true, true, true, true, true, true, true, false, false, false, false, false, false] rfl rfl (by kernel_rfl) (fun _ _ _ h => h) (Or.inl ⟨by rfl, ?_⟩) ?_ ?_
        rotate_left
        · intro w'
          go_simp
          with_reducible rfl
        rotate_left
        · simp only [Act.put, List.setIfInBounds_toArray, List.set_cons_zero, List.set_cons_succ, i64_w, i32_w]
          rfl
        refine pure_ (i := 13) (N := some 63) (v := ?_) (a' := ?_) #[true, true, true, true, true, true, true, true, true, true, true, true, true, true, false, false, false, false, false] rfl rfl (by kernel_rfl) (fun _ _ _ h => h) (Or.inl ⟨by rfl, ?_⟩) ?_ ?_
        rotate_left
        · intro w'
          go_simp
          with_reducible rfl
        rotate_left
        · simp only [Act.put, List.setIfInBounds_toArray, List.set_cons_zero, List.set_cons_succ, i64_w, i32_w]
          rfl
        refine two_ (i := 14) (j := 15) (Ni := some 10) (Nj := some 11) #[true, true, true, true, true, true, true, true, true, true, true, true, true, true, true, false, false, false, false] #[true, true, true, true, true, true, true, true, true, true, true, true, true, true, false, true, false, false, false] rfl rfl rfl rfl (by kernel_rfl) (by decide) (by decide) (fun K hK => ?_) (fun K hK => ?_)
        · skip
          refine value_ (w1 := ?_) (v := ?_) (by rfl) rfl ?_ ?_
          rotate_left 2
          · go_simp
            constructor
            · rfl
            · rfl
          have HG14 := Aside0.mk (show w.heap.size ≤ w5.heap.size from by have h := HX.out.below.size; first | exact h | (simp at h; omega))
          have HX := Aside0.mk (HX.out.boxed #[.int .i64 0, .slice none 0 0, .slice none 0 0] 25 (w5.heap.size) (by first | rfl | simp) (by decide))
          refine hK.out _ _ ⟨(HX.out.c (List.mem_cons_of_mem _ (List.mem_cons_of_mem _ (List.mem_cons_of_mem _ List.mem_cons_self))) 0), (HX.out.c (List.mem_cons_of_mem _ (List.mem_cons_of_mem _ (List.mem_cons_of_mem _ List.mem_cons_self))) 1), (HX.out.c (List.mem_cons_of_mem _ (List.mem_cons_of_mem _ (List.mem_cons_of_mem _ List.mem_cons_self))) 2), (HX.out.c (List.mem_cons_of_mem _ (List.mem_cons_of_mem _ (List.mem_cons_of_mem _ List.mem_cons_self))) 3), (HX.out.c (List.mem_cons_of_mem _ (List.mem_cons_of_mem _ (List.mem_cons_of_mem _ List.mem_cons_self))) 4)⟩ (fun hHeld => ?_)
          clear hK K
          refine norm_ (a' := ?_) ?_ ?_
          rotate_left
          · show Act.put _ (some 10) _ = _
            simp only [Act.put, List.setIfInBounds_toArray, List.set_cons_zero, List.set_cons_succ, i64_w, i32_w]
            rfl
          refine one_ (i := 15) (N := some 11) #[true, true, true, true, true, true, true, true, true, true, true, true, true, true, true, true, false, false, false] rfl rfl (by kernel_rfl) (by decide) (fun K hK => ?_)
          refine value_ (w1 := ?_) (v := ?_) (by rfl) rfl ?_ ?_
          rotate_left 2
          · go_simp
            constructor
            · rfl
            · rfl
          have HG15 := Aside0.mk (show w.heap.size ≤ w5.heap.size + 1 from by have h := HX.out.below.size; first | exact h | (simp at h; omega))
          have HX := Aside0.mk (HX.out.boxed #[.int .i64 0, .int .i64 0, .int .i64 0] 33 (w5.heap.size + 1) (by first | rfl | simp) (by decide))
          refine hK.out _ _ ⟨(HX.out.c (List.mem_cons_of_mem _ (List.mem_cons_of_mem _ (List.mem_cons_of_mem _ (List.mem_cons_of_mem _ List.mem_cons_self)))) 0), (HX.out.c (List.mem_cons_of_mem _ (List.mem_cons_of_mem _ (List.mem_cons_of_mem _ (List.mem_cons_of_mem _ List.mem_cons_self)))) 1), (HX.out.c (List.mem_cons_of_mem _ (List.mem_cons_of_mem _ (List.mem_cons_of_mem _ (List.mem_cons_of_mem _ List.mem_cons_self)))) 2), (HX.out.c (List.mem_cons_of_mem _ (List.mem_cons_of_mem _ (List.mem_cons_of_mem _ (List.mem_cons_of_mem _ List.mem_cons_self)))) 3), (HX.out.c (List.mem_cons_of_mem _ (List.mem_cons_of_mem _ (List.mem_cons_of_mem _ (List.mem_cons_of_mem _ List.mem_cons_self)))) 4)⟩ (fun hHeld => ?_)
          clear hK K
          refine norm_ (a' := ?_) ?_ ?_
          rotate_left
          · show Act.put _ (some 11) _ = _
            simp only [Act.put, List.setIfInBounds_toArray, List.set_cons_zero, List.set_cons_succ, i64_w, i32_w]
            rfl
          exact norm_ (by first | (simp only [putAll, Act.put, List.setIfInBounds_toArray, List.set_cons_zero, List.set_cons_succ]; done) | (simp only [putAll, Act.put, List.setIfInBounds_toArray, List.set_cons_zero, List.set_cons_succ]; rfl)) (hCont (w5.heap.size, w5.heap.size + 1, w3.heap.size, B1, d1_, B2, d2_) _ ⟨HX.out.subb _ (by simp), HG14.out, HG15.out⟩)
        · skip
          refine value_ (w1 := ?_) (v := ?_) (by rfl) rfl ?_ ?_
          rotate_left 2
          · go_simp
            constructor
            · rfl
            · rfl
          have HG15 := Aside0.mk (show w.heap.size ≤ w5.heap.size from by have h := HX.out.below.size; first | exact h | (simp at h; omega))
          have HX := Aside0.mk (HX.out.boxed #[.int .i64 0, .int .i64 0, .int .i64 0] 33 (w5.heap.size) (by first | rfl | simp) (by decide))
          refine hK.out _ _ ⟨(HX.out.c (List.mem_cons_of_mem _ (List.mem_cons_of_mem _ (List.mem_cons_of_mem _ List.mem_cons_self))) 0), (HX.out.c (List.mem_cons_of_mem _ (List.mem_cons_of_mem _ (List.mem_cons_of_mem _ List.mem_cons_self))) 1), (HX.out.c (List.mem_cons_of_mem _ (List.mem_cons_of_mem _ (List.mem_cons_of_mem _ List.mem_cons_self))) 2), (HX.out.c (List.mem_cons_of_mem _ (List.mem_cons_of_mem _ (List.mem_cons_of_mem _ List.mem_cons_self))) 3), (HX.out.c (List.mem_cons_of_mem _ (List.mem_cons_of_mem _ (List.mem_cons_of_mem _ List.mem_cons_self))) 4)⟩ (fun hHeld => ?_)
          clear hK K
          refine norm_ (a' := ?_) ?_ ?_
          rotate_left
          · show Act.put _ (some 11) _ = _
            simp only [Act.put, List.setIfInBounds_toArray, List.set_cons_zero, List.set_cons_succ, i64_w, i32_w]
            rfl
          refine one_ (i := 14) (N := some 10) #[true, true, true, true, true, true, true, true, true, true, true, true, true, true, true, true, false, false, false] rfl rfl (by kernel_rfl) (by decide) (fun K hK => ?_)
          refine value_ (w1 := ?_) (v := ?_) (by rfl) rfl ?_ ?_
          rotate_left 2
          · go_simp
            constructor
            · rfl
            · rfl
          have HG14 := Aside0.mk (show w.heap.size ≤ w5.heap.size + 1 from by have h := HX.out.below.size; first | exact h | (simp at h; omega))
          have HX := Aside0.mk (HX.out.boxed #[.int .i64 0, .slice none 0 0, .slice none 0 0] 25 (w5.heap.size + 1) (by first | rfl | simp) (by decide))
          refine hK.out _ _ ⟨(HX.out.c (List.mem_cons_of_mem _ (List.mem_cons_of_mem _ (List.mem_cons_of_mem _ (List.mem_cons_of_mem _ List.mem_cons_self)))) 0), (HX.out.c (List.mem_cons_of_mem _ (List.mem_cons_of_mem _ (List.mem_cons_of_mem _ (List.mem_cons_of_mem _ List.mem_cons_self)))) 1), (HX.out.c (List.mem_cons_of_mem _ (List.mem_cons_of_mem _ (List.mem_cons_of_mem _ (List.mem_cons_of_mem _ List.mem_cons_self)))) 2), (HX.out.c (List.mem_cons_of_mem _ (List.mem_cons_of_mem _ (List.mem_cons_of_mem _ (List.mem_cons_of_mem _ List.mem_cons_self)))) 3), (HX.out.c (List.mem_cons_of_mem _ (List.mem_cons_of_mem _ (List.mem_cons_of_mem _ (List.mem_cons_of_mem _ List.mem_cons_self)))) 4)⟩ (fun hHeld => ?_)
          clear hK K
          refine norm_ (a' := ?_) ?_ ?_
          rotate_left
          · show Act.put _ (some 10) _ = _
            simp only [Act.put, List.setIfInBounds_toArray, List.set_cons_zero, List.set_cons_succ, i64_w, i32_w]
            rfl
          exact norm_ (by first | (simp only [putAll, Act.put, List.setIfInBounds_toArray, List.set_cons_zero, List.set_cons_succ]; done) | (simp only [putAll, Act.put, List.setIfInBounds_toArray, List.set_cons_zero, List.set_cons_succ]; rfl)) (hCont (w5.heap.size + 1, w5.heap.size, w3.heap.size, B1, d1_, B2, d2_) _ ⟨HX.out.subb _ (by simp), HG14.out, HG15.out⟩)
      · skip
        refine value_ (w1 := ?_) (v := ?_) (by rfl) rfl ?_ ?_
        rotate_left 2
        · go_simp
          constructor
          · rfl
          · rfl
        have HG14 := Aside0.mk (show w.heap.size ≤ w4.heap.size from by have h := HX.out.below.size; first | exact h | (simp at h; omega))
        have HX := Aside0.mk (HX.out.boxed #[.int .i64 0, .slice none 0 0, .slice none 0 0] 25 (w4.heap.size) (by first | rfl | simp) (by decide))
        have HM := Aside0.mk (HM.out.step (below_alloc (Below.refl _ _) (.cells #[.int .i64 0, .slice none 0 0, .slice none 0 0] 25)))
        refine hK.out _ _ ⟨(HX.out.c (List.mem_cons_of_mem _ (List.mem_cons_of_mem _ (List.mem_cons_of_mem _ List.mem_cons_self))) 0), (HX.out.c (List.mem_cons_of_mem _ (List.mem_cons_of_mem _ (List.mem_cons_of_mem _ List.mem_cons_self))) 1), (HX.out.c (List.mem_cons_of_mem _ (List.mem_cons_of_mem _ (List.mem_cons_of_mem _ List.mem_cons_self))) 2), (HX.out.c (List.mem_cons_of_mem _ (List.mem_cons_of_mem _ (List.mem_cons_of_mem _ List.mem_cons_self))) 3), (HX.out.c (List.mem_cons_of_mem _ (List.mem_cons_of_mem _ (List.mem_cons_of_mem _ List.mem_cons_self))) 4)⟩ (fun hHeld => ?_)
        clear hK K
        refine norm_ (a' := ?_) ?_ ?_
        rotate_left
        · show Act.put _ (some 10) _ = _
          simp only [Act.put, List.setIfInBounds_toArray, List.set_cons_zero, List.set_cons_succ, i64_w, i32_w]
          rfl
        refine two_ (i := 9) (j := 15) (Ni := some 60) (Nj := some 11) #[true, true, true, true, true, true, true, true, true, true, false, false, false, false, true, false, false, false, false] #[true, true, true, true, true, true, true, true, true, false, false, false, false, false, true, true, false, false, false] rfl rfl rfl rfl (by kernel_rfl) (by decide) (by decide) (fun K hK => ?_) (fun K hK => ?_)
        · skip
          refine goes_ Try.func13 (by kernel_rfl) rfl #[.slice A0 code.length c0, .agg #[.int .i64 pc, .slice A2 st.length c2, .slice A3 ca.length c3], .iface 29 (.pointer (some ⟨w3.heap.size, 0, none⟩)), .int .i64 fuel] (by rfl) rfl rfl (by simp only [List.map_toArray, List.map_cons, List.map_nil]; rfl) ?_
          with_reducible refine (runE (s := ⟨pc, st, ca⟩) HX.out (Kd.C_below H0.out HX.out.below) HC.out.1 (Kd.C_below H2.out HX.out.below) (Kd.C_below H3.out HX.out.below) HM.out (far_in H0.out HM.out) (HRA.out _)).mono ?_
          rintro e w5 ⟨B1, d1_, B2, d2_, v5, rfl, hE, _, _, _⟩
          refine ⟨_, rfl, ?_⟩
          have HX := Aside0.mk (hE.subb _ (fun b hb => hb))
          clear hE
          refine hK.out _ _ ⟨(HX.out.c (List.mem_cons_of_mem _ (List.mem_cons_of_mem _ (List.mem_cons_of_mem _ List.mem_cons_self))) 0), (HX.out.c (List.mem_cons_of_mem _ (List.mem_cons_of_mem _ (List.mem_cons_of_mem _ List.mem_cons_self))) 1), (HX.out.c (List.mem_cons_of_mem _ (List.mem_cons_of_mem _ (List.mem_cons_of_mem _ List.mem_cons_self))) 2), (HX.out.c (List.mem_cons_of_mem _ (List.mem_cons_of_mem _ (List.mem_cons_of_mem _ List.mem_cons_self))) 3), (HX.out.c (List.mem_cons_of_mem _ (List.mem_cons_of_mem _ (List.mem_cons_of_mem _ List.mem_cons_self))) 4)⟩ (fun hHeld => ?_)
          clear hK K
          refine norm_ (a' := ?_) ?_ ?_
          rotate_left
          · show Act.put _ (some 60) _ = _
            simp only [Act.put, List.setIfInBounds_toArray, List.set_cons_zero, List.set_cons_succ, i64_w, i32_w]
            rfl
          refine pure_ (i := 10) (N := some 50) (v := ?_) (a' := ?_) #[true, true, true, true, true, true, true, true, true, true, true, false, false, false, true, false, false, false, false] rfl rfl (by kernel_rfl) (fun _ _ _ h => h) (Or.inl ⟨by rfl, ?_⟩) ?_ ?_
          rotate_left
          · intro w'
            go_simp
            with_reducible rfl
          rotate_left
          · simp only [Act.put, List.setIfInBounds_toArray, List.set_cons_zero, List.set_cons_succ, i64_w, i32_w]
            rfl
          refine pure_ (i := 11) (N := some 61) (v := ?_) (a' := ?_) #[true, true, true, true, true, true, true, true, true, true, true, true, false, false, true, false, false, false, false] rfl rfl (by kernel_rfl) (fun _ _ _ h => h) (Or.inl ⟨by rfl, ?_⟩) ?_ ?_
          rotate_left
          · intro w'
            go_simp
            with_reducible rfl
          rotate_left
          · simp only [Act.put, List.setIfInBounds_toArray, List.set_cons_zero, List.set_cons_succ, i64_w, i32_w]
            rfl
          refine pure_ (i := 12) (N := some 62) (v := ?_) (a' := ?_) #[true, true, true, true, true, true, true, true, true, true, true, true, true, false, true, false, false, false, false] rfl rfl (by kernel_rfl) (fun _ _ _ h => h) (Or.inl ⟨by rfl, ?_⟩) ?_ ?_
          rotate_left
          · intro w'
            go_simp
            with_reducible rfl
          rotate_left
          · simp only [Act.put, List.setIfInBounds_toArray, List.set_cons_zero, List.set_cons_succ, i64_w, i32_w]
            rfl
          refine pure_ (i := 13) (N := some 63) (v := ?_) (a' := ?_) #[true, true, true, true, true, true, true, true, true, true, true, true, true, true, true, false, false, false, false] rfl rfl (by kernel_rfl) (fun _ _ _ h => h) (Or.inl ⟨by rfl, ?_⟩) ?_ ?_
          rotate_left
          · intro w'
            go_simp
            with_reducible rfl
          rotate_left
          · simp only [Act.put, List.setIfInBounds_toArray, List.set_cons_zero, List.set_cons_succ, i64_w, i32_w]
            rfl
          refine one_ (i := 15) (N := some 11) #[true, true, true, true, true, true, true, true, true, true, true, true, true, true, true, true, false, false, false] rfl rfl (by kernel_rfl) (by decide) (fun K hK => ?_)
          refine value_ (w1 := ?_) (v := ?_) (by rfl) rfl ?_ ?_
          rotate_left 2
          · go_simp
            constructor
            · rfl
            · rfl
          have HG15 := Aside0.mk (show w.heap.size ≤ w5.heap.size from by have h := HX.out.below.size; first | exact h | (simp at h; omega))
          have HX := Aside0.mk (HX.out.boxed #[.int .i64 0, .int .i64 0, .int .i64 0] 33 (w5.heap.size) (by first | rfl | simp) (by decide))
          refine hK.out _ _ ⟨(HX.out.c (List.mem_cons_of_mem _ (List.mem_cons_of_mem _ (List.mem_cons_of_mem _ (List.mem_cons_of_mem _ List.mem_cons_self)))) 0), (HX.out.c (List.mem_cons_of_mem _ (List.mem_cons_of_mem _ (List.mem_cons_of_mem _ (List.mem_cons_of_mem _ List.mem_cons_self)))) 1), (HX.out.c (List.mem_cons_of_mem _ (List.mem_cons_of_mem _ (List.mem_cons_of_mem _ (List.mem_cons_of_mem _ List.mem_cons_self)))) 2), (HX.out.c (List.mem_cons_of_mem _ (List.mem_cons_of_mem _ (List.mem_cons_of_mem _ (List.mem_cons_of_mem _ List.mem_cons_self)))) 3), (HX.out.c (List.mem_cons_of_mem _ (List.mem_cons_of_mem _ (List.mem_cons_of_mem _ (List.mem_cons_of_mem _ List.mem_cons_self)))) 4)⟩ (fun hHeld => ?_)
          clear hK K
          refine norm_ (a' := ?_) ?_ ?_
          rotate_left
          · show Act.put _ (some 11) _ = _
            simp only [Act.put, List.setIfInBounds_toArray, List.set_cons_zero, List.set_cons_succ, i64_w, i32_w]
            rfl
          exact norm_ (by first | (simp only [putAll, Act.put, List.setIfInBounds_toArray, List.set_cons_zero, List.set_cons_succ]; done) | (simp only [putAll, Act.put, List.setIfInBounds_toArray, List.set_cons_zero, List.set_cons_succ]; rfl)) (hCont (w4.heap.size, w5.heap.size, w3.heap.size, B1, d1_, B2, d2_) _ ⟨HX.out.subb _ (by simp), HG14.out, HG15.out⟩)
        · skip
          refine value_ (w1 := ?_) (v := ?_) (by rfl) rfl ?_ ?_
          rotate_left 2
          · go_simp
            constructor
            · rfl
            · rfl
          have HG15 := Aside0.mk (show w.heap.size ≤ w4.heap.size + 1 from by have h := HX.out.below.size; first | exact h | (simp at h; omega))
          have HX := Aside0.mk (HX.out.boxed #[.int .i64 0, .int .i64 0, .int .i64 0] 33 (w4.heap.size + 1) (by first | rfl | simp) (by decide))
          have HM := Aside0.mk (HM.out.step (below_alloc (Below.refl _ _) (.cells #[.int .i64 0, .int .i64 0, .int .i64 0] 33)))
          refine hK.out _ _ ⟨(HX.out.c (List.mem_cons_of_mem _ (List.mem_cons_of_mem _ (List.mem_cons_of_mem _ (List.mem_cons_of_mem _ List.mem_cons_self)))) 0), (HX.out.c (List.mem_cons_of_mem _ (List.mem_cons_of_mem _ (List.mem_cons_of_mem _ (List.mem_cons_of_mem _ List.mem_cons_self)))) 1), (HX.out.c (List.mem_cons_of_mem _ (List.mem_cons_of_mem _ (List.mem_cons_of_mem _ (List.mem_cons_of_mem _ List.mem_cons_self)))) 2), (HX.out.c (List.mem_cons_of_mem _ (List.mem_cons_of_mem _ (List.mem_cons_of_mem _ (List.mem_cons_of_mem _ List.mem_cons_self)))) 3), (HX.out.c (List.mem_cons_of_mem _ (List.mem_cons_of_mem _ (List.mem_cons_of_mem _ (List.mem_cons_of_mem _ List.mem_cons_self)))) 4)⟩ (fun hHeld => ?_)
          clear hK K
          refine norm_ (a' := ?_) ?_ ?_
          rotate_left
          · show Act.put _ (some 11) _ = _
            simp only [Act.put, List.setIfInBounds_toArray, List.set_cons_zero, List.set_cons_succ, i64_w, i32_w]
            rfl
          refine one_ (i := 9) (N := some 60) #[true, true, true, true, true, true, true, true, true, true, false, false, false, false, true, true, false, false, false] rfl rfl (by kernel_rfl) (by decide) (fun K hK => ?_)
          refine goes_ Try.func13 (by kernel_rfl) rfl #[.slice A0 code.length c0, .agg #[.int .i64 pc, .slice A2 st.length c2, .slice A3 ca.length c3], .iface 29 (.pointer (some ⟨w3.heap.size, 0, none⟩)), .int .i64 fuel] (by rfl) rfl rfl (by simp only [List.map_toArray, List.map_cons, List.map_nil]; rfl) ?_
          with_reducible refine (runE (s := ⟨pc, st, ca⟩) HX.out (Kd.C_below H0.out HX.out.below) HC.out.1 (Kd.C_below H2.out HX.out.below) (Kd.C_below H3.out HX.out.below) HM.out (far_in H0.out HM.out) (HRA.out _)).mono ?_
          rintro e w5 ⟨B1, d1_, B2, d2_, v5, rfl, hE, _, _, _⟩
          refine ⟨_, rfl, ?_⟩
          have HX := Aside0.mk (hE.subb _ (fun b hb => hb))
          clear hE
          refine hK.out _ _ ⟨(HX.out.c (List.mem_cons_of_mem _ (List.mem_cons_of_mem _ (List.mem_cons_of_mem _ (List.mem_cons_of_mem _ List.mem_cons_self)))) 0), (HX.out.c (List.mem_cons_of_mem _ (List.mem_cons_of_mem _ (List.mem_cons_of_mem _ (List.mem_cons_of_mem _ List.mem_cons_self)))) 1), (HX.out.c (List.mem_cons_of_mem _ (List.mem_cons_of_mem _ (List.mem_cons_of_mem _ (List.mem_cons_of_mem _ List.mem_cons_self)))) 2), (HX.out.c (List.mem_cons_of_mem _ (List.mem_cons_of_mem _ (List.mem_cons_of_mem _ (List.mem_cons_of_mem _ List.mem_cons_self)))) 3), (HX.out.c (List.mem_cons_of_mem _ (List.mem_cons_of_mem _ (List.mem_cons_of_mem _ (List.mem_cons_of_mem _ List.mem_cons_self)))) 4)⟩ (fun hHeld => ?_)
          clear hK K
          refine norm_ (a' := ?_) ?_ ?_
          rotate_left
          · show Act.put _ (some 60) _ = _
            simp only [Act.put, List.setIfInBounds_toArray, List.set_cons_zero, List.set_cons_succ, i64_w, i32_w]
            rfl
          refine pure_ (i := 10) (N := some 50) (v := ?_) (a' := ?_) #[true, true, true, true, true, true, true, true, true, true, true, false, false, false, true, true, false, false, false] rfl rfl (by kernel_rfl) (fun _ _ _ h => h) (Or.inl ⟨by rfl, ?_⟩) ?_ ?_
          rotate_left
          · intro w'
            go_simp
            with_reducible rfl
          rotate_left
          · simp only [Act.put, List.setIfInBounds_toArray, List.set_cons_zero, List.set_cons_succ, i64_w, i32_w]
            rfl
          refine pure_ (i := 11) (N := some 61) (v := ?_) (a' := ?_) #[true, true, true, true, true, true, true, true, true, true, true, true, false, false, true, true, false, false, false] rfl rfl (by kernel_rfl) (fun _ _ _ h => h) (Or.inl ⟨by rfl, ?_⟩) ?_ ?_
          rotate_left
          · intro w'
            go_simp
            with_reducible rfl
          rotate_left
          · simp only [Act.put, List.setIfInBounds_toArray, List.set_cons_zero, List.set_cons_succ, i64_w, i32_w]
            rfl
          refine pure_ (i := 12) (N := some 62) (v := ?_) (a' := ?_) #[true, true, true, true, true, true, true, true, true, true, true, true, true, false, true, true, false, false, false] rfl rfl (by kernel_rfl) (fun _ _ _ h => h) (Or.inl ⟨by rfl, ?_⟩) ?_ ?_
          rotate_left
          · intro w'
            go_simp
            with_reducible rfl
          rotate_left
          · simp only [Act.put, List.setIfInBounds_toArray, List.set_cons_zero, List.set_cons_succ, i64_w, i32_w]
            rfl
          refine pure_ (i := 13) (N := some 63) (v := ?_) (a' := ?_) #[true, true, true, true, true, true, true, true, true, true, true, true, true, true, true, true, false, false, false] rfl rfl (by kernel_rfl) (fun _ _ _ h => h) (Or.inl ⟨by rfl, ?_⟩) ?_ ?_
          rotate_left
          · intro w'
            go_simp
            with_reducible rfl
          rotate_left
          · simp only [Act.put, List.setIfInBounds_toArray, List.set_cons_zero, List.set_cons_succ, i64_w, i32_w]
            rfl
          exact norm_ (by first | (simp only [putAll, Act.put, List.setIfInBounds_toArray, List.set_cons_zero, List.set_cons_succ]; done) | (simp only [putAll, Act.put, List.setIfInBounds_toArray, List.set_cons_zero, List.set_cons_succ]; rfl)) (hCont (w4.heap.size, w4.heap.size + 1, w3.heap.size, B1, d1_, B2, d2_) _ ⟨HX.out.subb _ (by simp), HG14.out, HG15.out⟩)
      · skip
        refine value_ (w1 := ?_) (v := ?_) (by rfl) rfl ?_ ?_
        rotate_left 2
        · go_simp
          constructor
          · rfl
          · rfl
        have HG15 := Aside0.mk (show w.heap.size ≤ w4.heap.size from by have h := HX.out.below.size; first | exact h | (simp at h; omega))
        have HX := Aside0.mk (HX.out.boxed #[.int .i64 0, .int .i64 0, .int .i64 0] 33 (w4.heap.size) (by first | rfl | simp) (by decide))
        have HM := Aside0.mk (HM.out.step (below_alloc (Below.refl _ _) (.cells #[.int .i64 0, .int .i64 0, .int .i64 0] 33)))
        refine hK.out _ _ ⟨(HX.out.c (List.mem_cons_of_mem _ (List.mem_cons_of_mem _ (List.mem_cons_of_mem _ List.mem_cons_self))) 0), (HX.out.c (List.mem_cons_of_mem _ (List.mem_cons_of_mem _ (List.mem_cons_of_mem _ List.mem_cons_self))) 1), (HX.out.c (List.mem_cons_of_mem _ (List.mem_cons_of_mem _ (List.mem_cons_of_mem _ List.mem_cons_self))) 2), (HX.out.c (List.mem_cons_of_mem _ (List.mem_cons_of_mem _ (List.mem_cons_of_mem _ List.mem_cons_self))) 3), (HX.out.c (List.mem_cons_of_mem _ (List.mem_cons_of_mem _ (List.mem_cons_of_mem _ List.mem_cons_self))) 4)⟩ (fun hHeld => ?_)
        clear hK K
        refine norm_ (a' := ?_) ?_ ?_
        rotate_left
        · show Act.put _ (some 11) _ = _
          simp only [Act.put, List.setIfInBounds_toArray, List.set_cons_zero, List.set_cons_succ, i64_w, i32_w]
          rfl
        refine two_ (i := 9) (j := 14) (Ni := some 60) (Nj := some 10) #[true, true, true, true, true, true, true, true, true, true, false, false, false, false, false, true, false, false, false] #[true, true, true, true, true, true, true, true, true, false, false, false, false, false, true, true, false, false, false] rfl rfl rfl rfl (by kernel_rfl) (by decide) (by decide) (fun K hK => ?_) (fun K hK => ?_)
        · skip
          refine goes_ Try.func13 (by kernel_rfl) rfl #[.slice A0 code.length c0, .agg #[.int .i64 pc, .slice A2 st.length c2, .slice A3 ca.length c3], .iface 29 (.pointer (some ⟨w3.heap.size, 0, none⟩)), .int .i64 fuel] (by rfl) rfl rfl (by simp only [List.map_toArray, List.map_cons, List.map_nil]; rfl) ?_
          with_reducible refine (runE (s := ⟨pc, st, ca⟩) HX.out (Kd.C_below H0.out HX.out.below) HC.out.1 (Kd.C_below H2.out HX.out.below) (Kd.C_below H3.out HX.out.below) HM.out (far_in H0.out HM.out) (HRA.out _)).mono ?_
          rintro e w5 ⟨B1, d1_, B2, d2_, v5, rfl, hE, _, _, _⟩
          refine ⟨_, rfl, ?_⟩
          have HX := Aside0.mk (hE.subb _ (fun b hb => hb))
          clear hE
          refine hK.out _ _ ⟨(HX.out.c (List.mem_cons_of_mem _ (List.mem_cons_of_mem _ (List.mem_cons_of_mem _ List.mem_cons_self))) 0), (HX.out.c (List.mem_cons_of_mem _ (List.mem_cons_of_mem _ (List.mem_cons_of_mem _ List.mem_cons_self))) 1), (HX.out.c (List.mem_cons_of_mem _ (List.mem_cons_of_mem _ (List.mem_cons_of_mem _ List.mem_cons_self))) 2), (HX.out.c (List.mem_cons_of_mem _ (List.mem_cons_of_mem _ (List.mem_cons_of_mem _ List.mem_cons_self))) 3), (HX.out.c (List.mem_cons_of_mem _ (List.mem_cons_of_mem _ (List.mem_cons_of_mem _ List.mem_cons_self))) 4)⟩ (fun hHeld => ?_)
          clear hK K
          refine norm_ (a' := ?_) ?_ ?_
          rotate_left
          · show Act.put _ (some 60) _ = _
            simp only [Act.put, List.setIfInBounds_toArray, List.set_cons_zero, List.set_cons_succ, i64_w, i32_w]
            rfl
          refine pure_ (i := 10) (N := some 50) (v := ?_) (a' := ?_) #[true, true, true, true, true, true, true, true, true, true, true, false, false, false, false, true, false, false, false] rfl rfl (by kernel_rfl) (fun _ _ _ h => h) (Or.inl ⟨by rfl, ?_⟩) ?_ ?_
          rotate_left
          · intro w'
            go_simp
            with_reducible rfl
          rotate_left
          · simp only [Act.put, List.setIfInBounds_toArray, List.set_cons_zero, List.set_cons_succ, i64_w, i32_w]
            rfl
          refine pure_ (i := 11) (N := some 61) (v := ?_) (a' := ?_) #[true, true, true, true, true, true, true, true, true, true, true, true, false, false, false, true, false, false, false] rfl rfl (by kernel_rfl) (fun _ _ _ h => h) (Or.inl ⟨by rfl, ?_⟩) ?_ ?_
          rotate_left
          · intro w'
            go_simp
            with_reducible rfl
          rotate_left
          · simp only [Act.put, List.setIfInBounds_toArray, List.set_cons_zero, List.set_cons_succ, i64_w, i32_w]
            rfl
          refine pure_ (i := 12) (N := some 62) (v := ?_) (a' := ?_) #[true, true, true, true, true, true, true, true, true, true, true, true, true, false, false, true, false, false, false] rfl rfl (by kernel_rfl) (fun _ _ _ h => h) (Or.inl ⟨by rfl, ?_⟩) ?_ ?_
          rotate_left
          · intro w'
            go_simp
            with_reducible rfl
          rotate_left
          · simp only [Act.put, List.setIfInBounds_toArray, List.set_cons_zero, List.set_cons_succ, i64_w, i32_w]
            rfl
          refine pure_ (i := 13) (N := some 63) (v := ?_) (a' := ?_) #[true, true, true, true, true, true, true, true, true, true, true, true, true, true, false, true, false, false, false] rfl rfl (by kernel_rfl) (fun _ _ _ h => h) (Or.inl ⟨by rfl, ?_⟩) ?_ ?_
          rotate_left
          · intro w'
            go_simp
            with_reducible rfl
          rotate_left
          · simp only [Act.put, List.setIfInBounds_toArray, List.set_cons_zero, List.set_cons_succ, i64_w, i32_w]
            rfl
          refine one_ (i := 14) (N := some 10) #[true, true, true, true, true, true, true, true, true, true, true, true, true, true, true, true, false, false, false] rfl rfl (by kernel_rfl) (by decide) (fun K hK => ?_)
          refine value_ (w1 := ?_) (v := ?_) (by rfl) rfl ?_ ?_
          rotate_left 2
          · go_simp
            constructor
            · rfl
            · rfl
          have HG14 := Aside0.mk (show w.heap.size ≤ w5.heap.size from by have h := HX.out.below.size; first | exact h | (simp at h; omega))
          have HX := Aside0.mk (HX.out.boxed #[.int .i64 0, .slice none 0 0, .slice none 0 0] 25 (w5.heap.size) (by first | rfl | simp) (by decide))
          refine hK.out _ _ ⟨(HX.out.c (List.mem_cons_of_mem _ (List.mem_cons_of_mem _ (List.mem_cons_of_mem _ (List.mem_cons_of_mem _ List.mem_cons_self)))) 0), (HX.out.c (List.mem_cons_of_mem _ (List.mem_cons_of_mem _ (List.mem_cons_of_mem _ (List.mem_cons_of_mem _ List.mem_cons_self)))) 1), (HX.out.c (List.mem_cons_of_mem _ (List.mem_cons_of_mem _ (List.mem_cons_of_mem _ (List.mem_cons_of_mem _ List.mem_cons_self)))) 2), (HX.out.c (List.mem_cons_of_mem _ (List.mem_cons_of_mem _ (List.mem_cons_of_mem _ (List.mem_cons_of_mem _ List.mem_cons_self)))) 3), (HX.out.c (List.mem_cons_of_mem _ (List.mem_cons_of_mem _ (List.mem_cons_of_mem _ (List.mem_cons_of_mem _ List.mem_cons_self)))) 4)⟩ (fun hHeld => ?_)
          clear hK K
          refine norm_ (a' := ?_) ?_ ?_
          rotate_left
          · show Act.put _ (some 10) _ = _
            simp only [Act.put, List.setIfInBounds_toArray, List.set_cons_zero, List.set_cons_succ, i64_w, i32_w]
            rfl
          exact norm_ (by first | (simp only [putAll, Act.put, List.setIfInBounds_toArray, List.set_cons_zero, List.set_cons_succ]; done) | (simp only [putAll, Act.put, List.setIfInBounds_toArray, List.set_cons_zero, List.set_cons_succ]; rfl)) (hCont (w5.heap.size, w4.heap.size, w3.heap.size, B1, d1_, B2, d2_) _ ⟨HX.out.subb _ (by simp), HG14.out, HG15.out⟩)
        · skip
          refine value_ (w1 := ?_) (v := ?_) (by rfl) rfl ?_ ?_
          rotate_left 2
          · go_simp
            constructor
            · rfl
            · rfl
          have HG14 := Aside0.mk (show w.heap.size ≤ w4.heap.size + 1 from by have h := HX.out.below.size; first | exact h | (simp at h; omega))
          have HX := Aside0.mk (HX.out.boxed #[.int .i64 0, .slice none 0 0, .slice none 0 0] 25 (w4.heap.size + 1) (by first | rfl | simp) (by decide))
          have HM := Aside0.mk (HM.out.step (below_alloc (Below.refl _ _) (.cells #[.int .i64 0, .slice none 0 0, .slice none 0 0] 25)))
          refine hK.out _ _ ⟨(HX.out.c (List.mem_cons_of_mem _ (List.mem_cons_of_mem _ (List.mem_cons_of_mem _ (List.mem_cons_of_mem _ List.mem_cons_self)))) 0), (HX.out.c (List.mem_cons_of_mem _ (List.mem_cons_of_mem _ (List.mem_cons_of_mem _ (List.mem_cons_of_mem _ List.mem_cons_self)))) 1), (HX.out.c (List.mem_cons_of_mem _ (List.mem_cons_of_mem _ (List.mem_cons_of_mem _ (List.mem_cons_of_mem _ List.mem_cons_self)))) 2), (HX.out.c (List.mem_cons_of_mem _ (List.mem_cons_of_mem _ (List.mem_cons_of_mem _ (List.mem_cons_of_mem _ List.mem_cons_self)))) 3), (HX.out.c (List.mem_cons_of_mem _ (List.mem_cons_of_mem _ (List.mem_cons_of_mem _ (List.mem_cons_of_mem _ List.mem_cons_self)))) 4)⟩ (fun hHeld => ?_)
          clear hK K
          refine norm_ (a' := ?_) ?_ ?_
          rotate_left
          · show Act.put _ (some 10) _ = _
            simp only [Act.put, List.setIfInBounds_toArray, List.set_cons_zero, List.set_cons_succ, i64_w, i32_w]
            rfl
          refine one_ (i := 9) (N := some 60) #[true, true, true, true, true, true, true, true, true, true, false, false, false, false, true, true, false, false, false] rfl rfl (by kernel_rfl) (by decide) (fun K hK => ?_)
          refine goes_ Try.func13 (by kernel_rfl) rfl #[.slice A0 code.length c0, .agg #[.int .i64 pc, .slice A2 st.length c2, .slice A3 ca.length c3], .iface 29 (.pointer (some ⟨w3.heap.size, 0, none⟩)), .int .i64 fuel] (by rfl) rfl rfl (by simp only [List.map_toArray, List.map_cons, List.map_nil]; rfl) ?_
          with_reducible refine (runE (s := ⟨pc, st, ca⟩) HX.out (Kd.C_below H0.out HX.out.below) HC.out.1 (Kd.C_below H2.out HX.out.below) (Kd.C_below H3.out HX.out.below) HM.out (far_in H0.out HM.out) (HRA.out _)).mono ?_
          rintro e w5 ⟨B1, d1_, B2, d2_, v5, rfl, hE, _, _, _⟩
          refine ⟨_, rfl, ?_⟩
          have HX := Aside0.mk (hE.subb _ (fun b hb => hb))
          clear hE
          refine hK.out _ _ ⟨(HX.out.c (List.mem_cons_of_mem _ (List.mem_cons_of_mem _ (List.mem_cons_of_mem _ (List.mem_cons_of_mem _ List.mem_cons_self)))) 0), (HX.out.c (List.mem_cons_of_mem _ (List.mem_cons_of_mem _ (List.mem_cons_of_mem _ (List.mem_cons_of_mem _ List.mem_cons_self)))) 1), (HX.out.c (List.mem_cons_of_mem _ (List.mem_cons_of_mem _ (List.mem_cons_of_mem _ (List.mem_cons_of_mem _ List.mem_cons_self)))) 2), (HX.out.c (List.mem_cons_of_mem _ (List.mem_cons_of_mem _ (List.mem_cons_of_mem _ (List.mem_cons_of_mem _ List.mem_cons_self)))) 3), (HX.out.c (List.mem_cons_of_mem _ (List.mem_cons_of_mem _ (List.mem_cons_of_mem _ (List.mem_cons_of_mem _ List.mem_cons_self)))) 4)⟩ (fun hHeld => ?_)
          clear hK K
          refine norm_ (a' := ?_) ?_ ?_
          rotate_left
          · show Act.put _ (some 60) _ = _
            simp only [Act.put, List.setIfInBounds_toArray, List.set_cons_zero, List.set_cons_succ, i64_w, i32_w]
            rfl
          refine pure_ (i := 10) (N := some 50) (v := ?_) (a' := ?_) #[true, true, true, true, true, true, true, true, true, true, true, false, false, false, true, true, false, false, false] rfl rfl (by kernel_rfl) (fun _ _ _ h => h) (Or.inl ⟨by rfl, ?_⟩) ?_ ?_
          rotate_left
          · intro w'
            go_simp
            with_reducible rfl
          rotate_left
          · simp only [Act.put, List.setIfInBounds_toArray, List.set_cons_zero, List.set_cons_succ, i64_w, i32_w]
            rfl
          refine pure_ (i := 11) (N := some 61) (v := ?_) (a' := ?_) #[true, true, true, true, true, true, true, true, true, true, true, true, false, false, true, true, false, false, false] rfl rfl (by kernel_rfl) (fun _ _ _ h => h) (Or.inl ⟨by rfl, ?_⟩) ?_ ?_
          rotate_left
          · intro w'
            go_simp
            with_reducible rfl
          rotate_left
          · simp only [Act.put, List.setIfInBounds_toArray, List.set_cons_zero, List.set_cons_succ, i64_w, i32_w]
            rfl
          refine pure_ (i := 12) (N := some 62) (v := ?_) (a' := ?_) #[true, true, true, true, true, true, true, true, true, true, true, true, true, false, true, true, false, false, false] rfl rfl (by kernel_rfl) (fun _ _ _ h => h) (Or.inl ⟨by rfl, ?_⟩) ?_ ?_
          rotate_left
          · intro w'
            go_simp
            with_reducible rfl
          rotate_left
          · simp only [Act.put, List.setIfInBounds_toArray, List.set_cons_zero, List.set_cons_succ, i64_w, i32_w]
            rfl
          refine pure_ (i := 13) (N := some 63) (v := ?_) (a' := ?_) #[true, true, true, true, true, true, true, true, true, true, true, true, true, true, true, true, false, false, false] rfl rfl (by kernel_rfl) (fun _ _ _ h => h) (Or.inl ⟨by rfl, ?_⟩) ?_ ?_
          rotate_left
          · intro w'
            go_simp
            with_reducible rfl
          rotate_left
          · simp only [Act.put, List.setIfInBounds_toArray, List.set_cons_zero, List.set_cons_succ, i64_w, i32_w]
            rfl
          exact norm_ (by first | (simp only [putAll, Act.put, List.setIfInBounds_toArray, List.set_cons_zero, List.set_cons_succ]; done) | (simp only [putAll, Act.put, List.setIfInBounds_toArray, List.set_cons_zero, List.set_cons_succ]; rfl)) (hCont (w4.heap.size + 1, w4.heap.size, w3.heap.size, B1, d1_, B2, d2_) _ ⟨HX.out.subb _ (by simp), HG14.out, HG15.out⟩)
    · skip
      refine value_ (w1 := ?_) (v := ?_) (by rfl) rfl ?_ ?_
      rotate_left 2
      · go_simp
        constructor
        · rfl
        · rfl
      have HG14 := Aside0.mk (show w.heap.size ≤ w3.heap.size from by have h := HX.out.below.size; first | exact h | (simp at h; omega))
      have HX := Aside0.mk (HX.out.boxed #[.int .i64 0, .slice none 0 0, .slice none 0 0] 25 (w3.heap.size) (by first | rfl | simp) (by decide))
      refine hK.out _ _ ⟨(HX.out.c (List.mem_cons_of_mem _ (List.mem_cons_of_mem _ (List.mem_cons_of_mem _ List.mem_cons_self))) 0), (HX.out.c (List.mem_cons_of_mem _ (List.mem_cons_of_mem _ (List.mem_cons_of_mem _ List.mem_cons_self))) 1), (HX.out.c (List.mem_cons_of_mem _ (List.mem_cons_of_mem _ (List.mem_cons_of_mem _ List.mem_cons_self))) 2), (HX.out.c (List.mem_cons_of_mem _ (List.mem_cons_of_mem _ (List.mem_cons_of_mem _ List.mem_cons_self))) 3), (HX.out.c (List.mem_cons_of_mem _ (List.mem_cons_of_mem _ (List.mem_cons_of_mem _ List.mem_cons_self))) 4)⟩ (fun hHeld => ?_)
      clear hK K
      refine norm_ (a' := ?_) ?_ ?_
      rotate_left
      · show Act.put _ (some 10) _ = _
        simp only [Act.put, List.setIfInBounds_toArray, List.set_cons_zero, List.set_cons_succ, i64_w, i32_w]
        rfl
      refine two_ (i := 6) (j := 15) (Ni := some 57) (Nj := some 11) #[true, true, true, true, true, true, true, false, true, false, false, false, false, false, true, false, false, false, false] #[true, true, true, true, true, true, false, false, true, false, false, false, false, false, true, true, false, false, false] rfl rfl rfl rfl (by kernel_rfl) (by decide) (by decide) (fun K hK => ?_) (fun K hK => ?_)
      · skip
        refine goes_ Try.func11 (by kernel_rfl) rfl #[.string mem] (by rfl) rfl rfl (by simp only [List.map_toArray, List.map_cons, List.map_nil]; rfl) ?_
        with_reducible refine (fillE (HX.out.step (below_drew (Below.refl _ _))) mem HC.out.2.2.2 (w3.heap.size + 1) (by first | rfl | simp)).mono ?_
        rintro e w4 ⟨v, rfl, hE, hM, _⟩
        refine ⟨_, rfl, ?_⟩
        have HX := Aside0.mk hE
        have HM := Aside0.mk hM
        clear hE hM
        refine hK.out _ _ ⟨(HX.out.c (List.mem_cons_of_mem _ (List.mem_cons_of_mem _ (List.mem_cons_of_mem _ List.mem_cons_self))) 0), (HX.out.c (List.mem_cons_of_mem _ (List.mem_cons_of_mem _ (List.mem_cons_of_mem _ List.mem_cons_self))) 1), (HX.out.c (List.mem_cons_of_mem _ (List.mem_cons_of_mem _ (List.mem_cons_of_mem _ List.mem_cons_self))) 2), (HX.out.c (List.mem_cons_of_mem _ (List.mem_cons_of_mem _ (List.mem_cons_of_mem _ List.mem_cons_self))) 3), (HX.out.c (List.mem_cons_of_mem _ (List.mem_cons_of_mem _ (List.mem_cons_of_mem _ List.mem_cons_self))) 4)⟩ (fun hHeld => ?_)
        clear hK K
        refine norm_ (a' := ?_) ?_ ?_
        rotate_left
        · show Act.put _ (some 57) _ = _
          simp only [Act.put, List.setIfInBounds_toArray, List.set_cons_zero, List.set_cons_succ, i64_w, i32_w]
          rfl
        refine pure_ (i := 7) (N := some 58) (v := ?_) (a' := ?_) #[true, true, true, true, true, true, true, true, true, false, false, false, false, false, true, false, false, false, false] rfl rfl (by kernel_rfl) (fun _ _ _ h => h) (Or.inl ⟨by rfl, ?_⟩) ?_ ?_
        rotate_left
        · intro w'
          go_simp
          with_reducible rfl
        rotate_left
        · simp only [Act.put, List.setIfInBounds_toArray, List.set_cons_zero, List.set_cons_succ, i64_w, i32_w]
          rfl
        refine two_ (i := 9) (j := 15) (Ni := some 60) (Nj := some 11) #[true, true, true, true, true, true, true, true, true, true, false, false, false, false, true, false, false, false, false] #[true, true, true, true, true, true, true, true, true, false, false, false, false, false, true, true, false, false, false] rfl rfl rfl rfl (by kernel_rfl) (by decide) (by decide) (fun K hK => ?_) (fun K hK => ?_)
        · skip
          refine goes_ Try.func13 (by kernel_rfl) rfl #[.slice A0 code.length c0, .agg #[.int .i64 pc, .slice A2 st.length c2, .slice A3 ca.length c3], .iface 29 (.pointer (some ⟨w3.heap.size + 1, 0, none⟩)), .int .i64 fuel] (by rfl) rfl rfl (by simp only [List.map_toArray, List.map_cons, List.map_nil]; rfl) ?_
          with_reducible refine (runE (s := ⟨pc, st, ca⟩) HX.out (Kd.C_below H0.out HX.out.below) HC.out.1 (Kd.C_below H2.out HX.out.below) (Kd.C_below H3.out HX.out.below) HM.out (far_in H0.out HM.out) (HRA.out _)).mono ?_
          rintro e w5 ⟨B1, d1_, B2, d2_, v5, rfl, hE, _, _, _⟩
          refine ⟨_, rfl, ?_⟩
          have HX := Aside0.mk (hE.subb _ (fun b hb => hb))
          clear hE
          refine hK.out _ _ ⟨(HX.out.c (List.mem_cons_of_mem _ (List.mem_cons_of_mem _ (List.mem_cons_of_mem _ List.mem_cons_self))) 0), (HX.out.c (List.mem_cons_of_mem _ (List.mem_cons_of_mem _ (List.mem_cons_of_mem _ List.mem_cons_self))) 1), (HX.out.c (List.mem_cons_of_mem _ (List.mem_cons_of_mem _ (List.mem_cons_of_mem _ List.mem_cons_self))) 2), (HX.out.c (List.mem_cons_of_mem _ (List.mem_cons_of_mem _ (List.mem_cons_of_mem _ List.mem_cons_self))) 3), (HX.out.c (List.mem_cons_of_mem _ (List.mem_cons_of_mem _ (List.mem_cons_of_mem _ List.mem_cons_self))) 4)⟩ (fun hHeld => ?_)
          clear hK K
          refine norm_ (a' := ?_) ?_ ?_
          rotate_left
          · show Act.put _ (some 60) _ = _
            simp only [Act.put, List.setIfInBounds_toArray, List.set_cons_zero, List.set_cons_succ, i64_w, i32_w]
            rfl
          refine pure_ (i := 10) (N := some 50) (v := ?_) (a' := ?_) #[true, true, true, true, true, true, true, true, true, true, true, false, false, false, true, false, false, false, false] rfl rfl (by kernel_rfl) (fun _ _ _ h => h) (Or.inl ⟨by rfl, ?_⟩) ?_ ?_
          rotate_left
          · intro w'
            go_simp
            with_reducible rfl
          rotate_left
          · simp only [Act.put, List.setIfInBounds_toArray, List.set_cons_zero, List.set_cons_succ, i64_w, i32_w]
            rfl
          refine pure_ (i := 11) (N := some 61) (v := ?_) (a' := ?_) #[true, true, true, true, true, true, true, true, true, true, true, true, false, false, true, false, false, false, false] rfl rfl (by kernel_rfl) (fun _ _ _ h => h) (Or.inl ⟨by rfl, ?_⟩) ?_ ?_
          rotate_left
          · intro w'
            go_simp
            with_reducible rfl
          rotate_left
          · simp only [Act.put, List.setIfInBounds_toArray, List.set_cons_zero, List.set_cons_succ, i64_w, i32_w]
            rfl
          refine pure_ (i := 12) (N := some 62) (v := ?_) (a' := ?_) #[true, true, true, true, true, true, true, true, true, true, true, true, true, false, true, false, false, false, false] rfl rfl (by kernel_rfl) (fun _ _ _ h => h) (Or.inl ⟨by rfl, ?_⟩) ?_ ?_
          rotate_left
          · intro w'
            go_simp
            with_reducible rfl
          rotate_left
          · simp only [Act.put, List.setIfInBounds_toArray, List.set_cons_zero, List.set_cons_succ, i64_w, i32_w]
            rfl
          refine pure_ (i := 13) (N := some 63) (v := ?_) (a' := ?_) #[true, true, true, true, true, true, true, true, true, true, true, true, true, true, true, false, false, false, false] rfl rfl (by kernel_rfl) (fun _ _ _ h => h) (Or.inl ⟨by rfl, ?_⟩) ?_ ?_
          rotate_left
          · intro w'
            go_simp
            with_reducible rfl
          rotate_left
          · simp only [Act.put, List.setIfInBounds_toArray, List.set_cons_zero, List.set_cons_succ, i64_w, i32_w]
            rfl
          refine one_ (i := 15) (N := some 11) #[true, true, true, true, true, true, true, true, true, true, true, true, true, true, true, true, false, false, false] rfl rfl (by kernel_rfl) (by decide) (fun K hK => ?_)
          refine value_ (w1 := ?_) (v := ?_) (by rfl) rfl ?_ ?_
          rotate_left 2
          · go_simp
            constructor
            · rfl
            · rfl
          have HG15 := Aside0.mk (show w.heap.size ≤ w5.heap.size from by have h := HX.out.below.size; first | exact h | (simp at h; omega))
          have HX := Aside0.mk (HX.out.boxed #[.int .i64 0, .int .i64 0, .int .i64 0] 33 (w5.heap.size) (by first | rfl | simp) (by decide))
          refine hK.out _ _ ⟨(HX.out.c (List.mem_cons_of_mem _ (List.mem_cons_of_mem _ (List.mem_cons_of_mem _ (List.mem_cons_of_mem _ List.mem_cons_self)))) 0), (HX.out.c (List.mem_cons_of_mem _ (List.mem_cons_of_mem _ (List.mem_cons_of_mem _ (List.mem_cons_of_mem _ List.mem_cons_self)))) 1), (HX.out.c (List.mem_cons_of_mem _ (List.mem_cons_of_mem _ (List.mem_cons_of_mem _ (List.mem_cons_of_mem _ List.mem_cons_self)))) 2), (HX.out.c (List.mem_cons_of_mem _ (List.mem_cons_of_mem _ (List.mem_cons_of_mem _ (List.mem_cons_of_mem _ List.mem_cons_self)))) 3), (HX.out.c (List.mem_cons_of_mem _ (List.mem_cons_of_mem _ (List.mem_cons_of_mem _ (List.mem_cons_of_mem _ List.mem_cons_self)))) 4)⟩ (fun hHeld => ?_)
          clear hK K
          refine norm_ (a' := ?_) ?_ ?_
          rotate_left
          · show Act.put _ (some 11) _ = _
            simp only [Act.put, List.setIfInBounds_toArray, List.set_cons_zero, List.set_cons_succ, i64_w, i32_w]
            rfl
          exact norm_ (by first | (simp only [putAll, Act.put, List.setIfInBounds_toArray, List.set_cons_zero, List.set_cons_succ]; done) | (simp only [putAll, Act.put, List.setIfInBounds_toArray, List.set_cons_zero, List.set_cons_succ]; rfl)) (hCont (w3.heap.size, w5.heap.size, w3.heap.size + 1, B1, d1_, B2, d2_) _ ⟨HX.out.subb _ (by simp), HG14.out, HG15.out⟩)
        · skip
          refine value_ (w1 := ?_) (v := ?_) (by rfl) rfl ?_ ?_
          rotate_left 2
          · go_simp
            constructor
            · rfl
            · rfl
          have HG15 := Aside0.mk (show w.heap.size ≤ w4.heap.size from by have h := HX.out.below.size; first | exact h | (simp at h; omega))
          have HX := Aside0.mk (HX.out.boxed #[.int .i64 0, .int .i64 0, .int .i64 0] 33 (w4.heap.size) (by first | rfl | simp) (by decide))
          have HM := Aside0.mk (HM.out.step (below_alloc (Below.refl _ _) (.cells #[.int .i64 0, .int .i64 0, .int .i64 0] 33)))
          refine hK.out _ _ ⟨(HX.out.c (List.mem_cons_of_mem _ (List.mem_cons_of_mem _ (List.mem_cons_of_mem _ (List.mem_cons_of_mem _ List.mem_cons_self)))) 0), (HX.out.c (List.mem_cons_of_mem _ (List.mem_cons_of_mem _ (List.mem_cons_of_mem _ (List.mem_cons_of_mem _ List.mem_cons_self)))) 1), (HX.out.c (List.mem_cons_of_mem _ (List.mem_cons_of_mem _ (List.mem_cons_of_mem _ (List.mem_cons_of_mem _ List.mem_cons_self)))) 2), (HX.out.c (List.mem_cons_of_mem _ (List.mem_cons_of_mem _ (List.mem_cons_of_mem _ (List.mem_cons_of_mem _ List.mem_cons_self)))) 3), (HX.out.c (List.mem_cons_of_mem _ (List.mem_cons_of_mem _ (List.mem_cons_of_mem _ (List.mem_cons_of_mem _ List.mem_cons_self)))) 4)⟩ (fun hHeld => ?_)
          clear hK K
          refine norm_ (a' := ?_) ?_ ?_
          rotate_left
          · show Act.put _ (some 11) _ = _
            simp only [Act.put, List.setIfInBounds_toArray, List.set_cons_zero, List.set_cons_succ, i64_w, i32_w]
            rfl
          refine one_ (i := 9) (N := some 60) #[true, true, true, true, true, true, true, true, true, true, false, false, false, false, true, true, false, false, false] rfl rfl (by kernel_rfl) (by decide) (fun K hK => ?_)
          refine goes_ Try.func13 (by kernel_rfl) rfl #[.slice A0 code.length c0, .agg #[.int .i64 pc, .slice A2 st.length c2, .slice A3 ca.length c3], .iface 29 (.pointer (some ⟨w3.heap.size + 1, 0, none⟩)), .int .i64 fuel] (by rfl) rfl rfl (by simp only [List.map_toArray, List.map_cons, List.map_nil]; rfl) ?_
          with_reducible refine (runE (s := ⟨pc, st, ca⟩) HX.out (Kd.C_below H0.out HX.out.below) HC.out.1 (Kd.C_below H2.out HX.out.below) (Kd.C_below H3.out HX.out.below) HM.out (far_in H0.out HM.out) (HRA.out _)).mono ?_
          rintro e w5 ⟨B1, d1_, B2, d2_, v5, rfl, hE, _, _, _⟩
          refine ⟨_, rfl, ?_⟩
          have HX := Aside0.mk (hE.subb _ (fun b hb => hb))
          clear hE
          refine hK.out _ _ ⟨(HX.out.c (List.mem_cons_of_mem _ (List.mem_cons_of_mem _ (List.mem_cons_of_mem _ (List.mem_cons_of_mem _ List.mem_cons_self)))) 0), (HX.out.c (List.mem_cons_of_mem _ (List.mem_cons_of_mem _ (List.mem_cons_of_mem _ (List.mem_cons_of_mem _ List.mem_cons_self)))) 1), (HX.out.c (List.mem_cons_of_mem _ (List.mem_cons_of_mem _ (List.mem_cons_of_mem _ (List.mem_cons_of_mem _ List.mem_cons_self)))) 2), (HX.out.c (List.mem_cons_of_mem _ (List.mem_cons_of_mem _ (List.mem_cons_of_mem _ (List.mem_cons_of_mem _ List.mem_cons_self)))) 3), (HX.out.c (List.mem_cons_of_mem _ (List.mem_cons_of_mem _ (List.mem_cons_of_mem _ (List.mem_cons_of_mem _ List.mem_cons_self)))) 4)⟩ (fun hHeld => ?_)
          clear hK K
          refine norm_ (a' := ?_) ?_ ?_
          rotate_left
          · show Act.put _ (some 60) _ = _
            simp only [Act.put, List.setIfInBounds_toArray, List.set_cons_zero, List.set_cons_succ, i64_w, i32_w]
            rfl
          refine pure_ (i := 10) (N := some 50) (v := ?_) (a' := ?_) #[true, true, true, true, true, true, true, true, true, true, true, false, false, false, true, true, false, false, false] rfl rfl (by kernel_rfl) (fun _ _ _ h => h) (Or.inl ⟨by rfl, ?_⟩) ?_ ?_
          rotate_left
          · intro w'
            go_simp
            with_reducible rfl
          rotate_left
          · simp only [Act.put, List.setIfInBounds_toArray, List.set_cons_zero, List.set_cons_succ, i64_w, i32_w]
            rfl
          refine pure_ (i := 11) (N := some 61) (v := ?_) (a' := ?_) #[true, true, true, true, true, true, true, true, true, true, true, true, false, false, true, true, false, false, false] rfl rfl (by kernel_rfl) (fun _ _ _ h => h) (Or.inl ⟨by rfl, ?_⟩) ?_ ?_
          rotate_left
          · intro w'
            go_simp
            with_reducible rfl
          rotate_left
          · simp only [Act.put, List.setIfInBounds_toArray, List.set_cons_zero, List.set_cons_succ, i64_w, i32_w]
            rfl
          refine pure_ (i := 12) (N := some 62) (v := ?_) (a' := ?_) #[true, true, true, true, true, true, true, true, true, true, true, true, true, false, true, true, false, false, false] rfl rfl (by kernel_rfl) (fun _ _ _ h => h) (Or.inl ⟨by rfl, ?_⟩) ?_ ?_
          rotate_left
          · intro w'
            go_simp
            with_reducible rfl
          rotate_left
          · simp only [Act.put, List.setIfInBounds_toArray, List.set_cons_zero, List.set_cons_succ, i64_w, i32_w]
            rfl
          refine pure_ (i := 13) (N := some 63) (v := ?_) (a' := ?_) #[true, true, true, true, true, true, true, true, true, true, true, true, true, true, true, true, false, false, false] rfl rfl (by kernel_rfl) (fun _ _ _ h => h) (Or.inl ⟨by rfl, ?_⟩) ?_ ?_
          rotate_left
          · intro w'
            go_simp
            with_reducible rfl
          rotate_left
          · simp only [Act.put, List.setIfInBounds_toArray, List.set_cons_zero, List.set_cons_succ, i64_w, i32_w]
            rfl
          exact norm_ (by first | (simp only [putAll, Act.put, List.setIfInBounds_toArray, List.set_cons_zero, List.set_cons_succ]; done) | (simp only [putAll, Act.put, List.setIfInBounds_toArray, List.set_cons_zero, List.set_cons_succ]; rfl)) (hCont (w3.heap.size, w4.heap.size, w3.heap.size + 1, B1, d1_, B2, d2_) _ ⟨HX.out.subb _ (by simp), HG14.out, HG15.out⟩)
      · skip
        refine value_ (w1 := ?_) (v := ?_) (by rfl) rfl ?_ ?_
        rotate_left 2
        · go_simp
          constructor
          · rfl
          · rfl
        have HG15 := Aside0.mk (show w.heap.size ≤ w3.heap.size + 1 from by have h := HX.out.below.size; first | exact h | (simp at h; omega))
        have HX := Aside0.mk (HX.out.boxed #[.int .i64 0, .int .i64 0, .int .i64 0] 33 (w3.heap.size + 1) (by first | rfl | simp) (by decide))
        refine hK.out _ _ ⟨(HX.out.c (List.mem_cons_of_mem _ (List.mem_cons_of_mem _ (List.mem_cons_of_mem _ (List.mem_cons_of_mem _ List.mem_cons_self)))) 0), (HX.out.c (List.mem_cons_of_mem _ (List.mem_cons_of_mem _ (List.mem_cons_of_mem _ (List.mem_cons_of_mem _ List.mem_cons_self)))) 1), (HX.out.c (List.mem_cons_of_mem _ (List.mem_cons_of_mem _ (List.mem_cons_of_mem _ (List.mem_cons_of_mem _ List.mem_cons_self)))) 2), (HX.out.c (List.mem_cons_of_mem _ (List.mem_cons_of_mem _ (List.mem_cons_of_mem _ (List.mem_cons_of_mem _ List.mem_cons_self)))) 3), (HX.out.c (List.mem_cons_of_mem _ (List.mem_cons_of_mem _ (List.mem_cons_of_mem _ (List.mem_cons_of_mem _ List.mem_cons_self)))) 4)⟩ (fun hHeld => ?_)
        clear hK K
        refine norm_ (a' := ?_) ?_ ?_
        rotate_left
        · show Act.put _ (some 11) _ = _
          simp only [Act.put, List.setIfInBounds_toArray, List.set_cons_zero, List.set_cons_succ, i64_w, i32_w]
          rfl
        refine one_ (i := 6) (N := some 57) #[true, true, true, true, true, true, true, false, true, false, false, false, false, false, true, true, false, false, false] rfl rfl (by kernel_rfl) (by decide) (fun K hK => ?_)
        refine goes_ Try.func11 (by kernel_rfl) rfl #[.string mem] (by rfl) rfl rfl (by simp only [List.map_toArray, List.map_cons, List.map_nil]; rfl) ?_
        with_reducible refine (fillE (HX.out.step (below_drew (Below.refl _ _))) mem HC.out.2.2.2 (w3.heap.size + 1 + 1) (by first | rfl | simp)).mono ?_
        rintro e w4 ⟨v, rfl, hE, hM, _⟩
        refine ⟨_, rfl, ?_⟩
        have HX := Aside0.mk hE
        have HM := Aside0.mk hM
        clear hE hM
        refine hK.out _ _ ⟨(HX.out.c (List.mem_cons_of_mem _ (List.mem_cons_of_mem _ (List.mem_cons_of_mem _ (List.mem_cons_of_mem _ List.mem_cons_self)))) 0), (HX.out.c (List.mem_cons_of_mem _ (List.mem_cons_of_mem _ (List.mem_cons_of_mem _ (List.mem_cons_of_mem _ List.mem_cons_self)))) 1), (HX.out.c (List.mem_cons_of_mem _ (List.mem_cons_of_mem _ (List.mem_cons_of_mem _ (List.mem_cons_of_mem _ List.mem_cons_self)))) 2), (HX.out.c (List.mem_cons_of_mem _ (List.mem_cons_of_mem _ (List.mem_cons_of_mem _ (List.mem_cons_of_mem _ List.mem_cons_self)))) 3), (HX.out.c (List.mem_cons_of_mem _ (List.mem_cons_of_mem _ (List.mem_cons_of_mem _ (List.mem_cons_of_mem _ List.mem_cons_self)))) 4)⟩ (fun hHeld => ?_)
        clear hK K
        refine norm_ (a' := ?_) ?_ ?_
        rotate_left
        · show Act.put _ (some 57) _ = _
          simp only [Act.put, List.setIfInBounds_toArray, List.set_cons_zero, List.set_cons_succ, i64_w, i32_w]
          rfl
        refine pure_ (i := 7) (N := some 58) (v := ?_) (a' := ?_) #[true, true, true, true, true, true, true, true, true, false, false, false, false, false, true, true, false, false, false] rfl rfl (by kernel_rfl) (fun _ _ _ h => h) (Or.inl ⟨by rfl, ?_⟩) ?_ ?_
        rotate_left
        · intro w'
          go_simp
          with_reducible rfl
        rotate_left
        · simp only [Act.put, List.setIfInBounds_toArray, List.set_cons_zero, List.set_cons_succ, i64_w, i32_w]
          rfl
        refine one_ (i := 9) (N := some 60) #[true, true, true, true, true, true, true, true, true, true, false, false, false, false, true, true, false, false, false] rfl rfl (by kernel_rfl) (by decide) (fun K hK => ?_)
        refine goes_ Try.func13 (by kernel_rfl) rfl #[.slice A0 code.length c0, .agg #[.int .i64 pc, .slice A2 st.length c2, .slice A3 ca.length c3], .iface 29 (.pointer (some ⟨w3.heap.size + 1 + 1, 0, none⟩)), .int .i64 fuel] (by rfl) rfl rfl (by simp only [List.map_toArray, List.map_cons, List.map_nil]; rfl) ?_
        with_reducible refine (runE (s := ⟨pc, st, ca⟩) HX.out (Kd.C_below H0.out HX.out.below) HC.out.1 (Kd.C_below H2.out HX.out.below) (Kd.C_below H3.out HX.out.below) HM.out (far_in H0.out HM.out) (HRA.out _)).mono ?_
        rintro e w5 ⟨B1, d1_, B2, d2_, v5, rfl, hE, _, _, _⟩
        refine ⟨_, rfl, ?_⟩
        have HX := Aside0.mk (hE.subb _ (fun b hb => hb))
        clear hE
        refine hK.out _ _ ⟨(HX.out.c (List.mem_cons_of_mem _ (List.mem_cons_of_mem _ (List.mem_cons_of_mem _ (List.mem_cons_of_mem _ List.mem_cons_self)))) 0), (HX.out.c (List.mem_cons_of_mem _ (List.mem_cons_of_mem _ (List.mem_cons_of_mem _ (List.mem_cons_of_mem _ List.mem_cons_self)))) 1), (HX.out.c (List.mem_cons_of_mem _ (List.mem_cons_of_mem _ (List.mem_cons_of_mem _ (List.mem_cons_of_mem _ List.mem_cons_self)))) 2), (HX.out.c (List.mem_cons_of_mem _ (List.mem_cons_of_mem _ (List.mem_cons_of_mem _ (List.mem_cons_of_mem _ List.mem_cons_self)))) 3), (HX.out.c (List.mem_cons_of_mem _ (List.mem_cons_of_mem _ (List.mem_cons_of_mem _ (List.mem_cons_of_mem _ List.mem_cons_self)))) 4)⟩ (fun hHeld => ?_)
        clear hK K
        refine norm_ (a' := ?_) ?_ ?_
        rotate_left
        · show Act.put _ (some 60) _ = _
          simp only [Act.put, List.setIfInBounds_toArray, List.set_cons_zero, List.set_cons_succ, i64_w, i32_w]
          rfl
        refine pure_ (i := 10) (N := some 50) (v := ?_) (a' := ?_) #[true, true, true, true, true, true, true, true, true, true, true, false, false, false, true, true, false, false, false] rfl rfl (by kernel_rfl) (fun _ _ _ h => h) (Or.inl ⟨by rfl, ?_⟩) ?_ ?_
        rotate_left
        · intro w'
          go_simp
          with_reducible rfl
        rotate_left
        · simp only [Act.put, List.setIfInBounds_toArray, List.set_cons_zero, List.set_cons_succ, i64_w, i32_w]
          rfl
        refine pure_ (i := 11) (N := some 61) (v := ?_) (a' := ?_) #[true, true, true, true, true, true, true, true, true, true, true, true, false, false, true, true, false, false, false] rfl rfl (by kernel_rfl) (fun _ _ _ h => h) (Or.inl ⟨by rfl, ?_⟩) ?_ ?_
        rotate_left
        · intro w'
          go_simp
          with_reducible rfl
        rotate_left
        · simp only [Act.put, List.setIfInBounds_toArray, List.set_cons_zero, List.set_cons_succ, i64_w, i32_w]
          rfl
        refine pure_ (i := 12) (N := some 62) (v := ?_) (a' := ?_) #[true, true, true, true, true, true, true, true, true, true, true, true, true, false, true, true, false, false, false] rfl rfl (by kernel_rfl) (fun _ _ _ h => h) (Or.inl ⟨by rfl, ?_⟩) ?_ ?_
        rotate_left
        · intro w'
          go_simp
          with_reducible rfl
        rotate_left
        · simp only [Act.put, List.setIfInBounds_toArray, List.set_cons_zero, List.set_cons_succ, i64_w, i32_w]
          rfl
        refine pure_ (i := 13) (N := some 63) (v := ?_) (a' := ?_) #[true, true, true, true, true, true, true, true, true, true, true, true, true, true, true, true, false, false, false] rfl rfl (by kernel_rfl) (fun _ _ _ h => h) (Or.inl ⟨by rfl, ?_⟩) ?_ ?_
        rotate_left
        · intro w'
          go_simp
          with_reducible rfl
        rotate_left
        · simp only [Act.put, List.setIfInBounds_toArray, List.set_cons_zero, List.set_cons_succ, i64_w, i32_w]
          rfl
        exact norm_ (by first | (simp only [putAll, Act.put, List.setIfInBounds_toArray, List.set_cons_zero, List.set_cons_succ]; done) | (simp only [putAll, Act.put, List.setIfInBounds_toArray, List.set_cons_zero, List.set_cons_succ]; rfl)) (hCont (w3.heap.size, w3.heap.size + 1, w3.heap.size + 1 + 1, B1, d1_, B2, d2_) _ ⟨HX.out.subb _ (by simp), HG14.out, HG15.out⟩)
    · skip
      refine value_ (w1 := ?_) (v := ?_) (by rfl) rfl ?_ ?_
      rotate_left 2
      · go_simp
        constructor
        · rfl
        · rfl
      have HG15 := Aside0.mk (show w.heap.size ≤ w3.heap.size from by have h := HX.out.below.size; first | exact h | (simp at h; omega))
      have HX := Aside0.mk (HX.out.boxed #[.int .i64 0, .int .i64 0, .int .i64 0] 33 (w3.heap.size) (by first | rfl | simp) (by decide))
      refine hK.out _ _ ⟨(HX.out.c (List.mem_cons_of_mem _ (List.mem_cons_of_mem _ (List.mem_cons_of_mem _ List.mem_cons_self))) 0), (HX.out.c (List.mem_cons_of_mem _ (List.mem_cons_of_mem _ (List.mem_cons_of_mem _ List.mem_cons_self))) 1), (HX.out.c (List.mem_cons_of_mem _ (List.mem_cons_of_mem _ (List.mem_cons_of_mem _ List.mem_cons_self))) 2), (HX.out.c (List.mem_cons_of_mem _ (List.mem_cons_of_mem _ (List.mem_cons_of_mem _ List.mem_cons_self))) 3), (HX.out.c (List.mem_cons_of_mem _ (List.mem_cons_of_mem _ (List.mem_cons_of_mem _ List.mem_cons_self))) 4)⟩ (fun hHeld => ?_)
      clear hK K
      refine norm_ (a' := ?_) ?_ ?_
      rotate_left
      · show Act.put _ (some 11) _ = _
        simp only [Act.put, List.setIfInBounds_toArray, List.set_cons_zero, List.set_cons_succ, i64_w, i32_w]
        rfl
      refine two_ (i := 6) (j := 14) (Ni := some 57) (Nj := some 10) #[true, true, true, true, true, true, true, false, true, false, false, false, false, false, false, true, false, false, false] #[true, true, true, true, true, true, false, false, true, false, false, false, false, false, true, true, false, false, false] rfl rfl rfl rfl (by kernel_rfl) (by decide) (by decide) (fun K hK => ?_) (fun K hK => ?_)
      · skip
        refine goes_ Try.func11 (by kernel_rfl) rfl #[.string mem] (by rfl) rfl rfl (by simp only [List.map_toArray, List.map_cons, List.map_nil]; rfl) ?_
        with_reducible refine (fillE (HX.out.step (below_drew (Below.refl _ _))) mem HC.out.2.2.2 (w3.heap.size + 1) (by first | rfl | simp)).mono ?_
        rintro e w4 ⟨v, rfl, hE, hM, _⟩
        refine ⟨_, rfl, ?_⟩
        have HX := Aside0.mk hE
        have HM := Aside0.mk hM
        clear hE hM
        refine hK.out _ _ ⟨(HX.out.c (List.mem_cons_of_mem _ (List.mem_cons_of_mem _ (List.mem_cons_of_mem _ List.mem_cons_self))) 0), (HX.out.c (List.mem_cons_of_mem _ (List.mem_cons_of_mem _ (List.mem_cons_of_mem _ List.mem_cons_self))) 1), (HX.out.c (List.mem_cons_of_mem _ (List.mem_cons_of_mem _ (List.mem_cons_of_mem _ List.mem_cons_self))) 2), (HX.out.c (List.mem_cons_of_mem _ (List.mem_cons_of_mem _ (List.mem_cons_of_mem _ List.mem_cons_self))) 3), (HX.out.c (List.mem_cons_of_mem _ (List.mem_cons_of_mem _ (List.mem_cons_of_mem _ List.mem_cons_self))) 4)⟩ (fun hHeld => ?_)
        clear hK K
        refine norm_ (a' := ?_) ?_ ?_
        rotate_left
        · show Act.put _ (some 57) _ = _
          simp only [Act.put, List.setIfInBounds_toArray, List.set_cons_zero, List.set_cons_succ, i64_w, i32_w]
          rfl
        refine pure_ (i := 7) (N := some 58) (v := ?_) (a' := ?_) #[true, true, true, true, true, true, true, true, true, false, false, false, false, false, false, true, false, false, false] rfl rfl (by kernel_rfl) (fun _ _ _ h => h) (Or.inl ⟨by rfl, ?_⟩) ?_ ?_
        rotate_left
        · intro w'
          go_simp
          with_reducible rfl
        rotate_left
        · simp only [Act.put, List.setIfInBounds_toArray, List.set_cons_zero, List.set_cons_succ, i64_w, i32_w]
          rfl
        refine two_ (i := 9) (j := 14) (Ni := some 60) (Nj := some 10) #[true, true, true, true, true, true, true, true, true, true, false, false, false, false, false, true, false, false, false] #[true, true, true, true, true, true, true, true, true, false, false, false, false, false, true, true, false, false, false] rfl rfl rfl rfl (by kernel_rfl) (by decide) (by decide) (fun K hK => ?_) (fun K hK => ?_)
        · skip
          refine goes_ Try.func13 (by kernel_rfl) rfl #[.slice A0 code.length c0, .agg #[.int .i64 pc, .slice A2 st.length c2, .slice A3 ca.length c3], .iface 29 (.pointer (some ⟨w3.heap.size + 1, 0, none⟩)), .int .i64 fuel] (by rfl) rfl rfl (by simp only [List.map_toArray, List.map_cons, List.map_nil]; rfl) ?_
          with_reducible refine (runE (s := ⟨pc, st, ca⟩) HX.out (Kd.C_below H0.out HX.out.below) HC.out.1 (Kd.C_below H2.out HX.out.below) (Kd.C_below H3.out HX.out.below) HM.out (far_in H0.out HM.out) (HRA.out _)).mono ?_
          rintro e w5 ⟨B1, d1_, B2, d2_, v5, rfl, hE, _, _, _⟩
          refine ⟨_, rfl, ?_⟩
          have HX := Aside0.mk (hE.subb _ (fun b hb => hb))
          clear hE
          refine hK.out _ _ ⟨(HX.out.c (List.mem_cons_of_mem _ (List.mem_cons_of_mem _ (List.mem_cons_of_mem _ List.mem_cons_self))) 0), (HX.out.c (List.mem_cons_of_mem _ (List.mem_cons_of_mem _ (List.mem_cons_of_mem _ List.mem_cons_self))) 1), (HX.out.c (List.mem_cons_of_mem _ (List.mem_cons_of_mem _ (List.mem_cons_of_mem _ List.mem_cons_self))) 2), (HX.out.c (List.mem_cons_of_mem _ (List.mem_cons_of_mem _ (List.mem_cons_of_mem _ List.mem_cons_self))) 3), (HX.out.c (List.mem_cons_of_mem _ (List.mem_cons_of_mem _ (List.mem_cons_of_mem _ List.mem_cons_self))) 4)⟩ (fun hHeld => ?_)
          clear hK K
          refine norm_ (a' := ?_) ?_ ?_
          rotate_left
          · show Act.put _ (some 60) _ = _
            simp only [Act.put, List.setIfInBounds_toArray, List.set_cons_zero, List.set_cons_succ, i64_w, i32_w]
            rfl
          refine pure_ (i := 10) (N := some 50) (v := ?_) (a' := ?_) #[true, true, true, true, true, true, true, true, true, true, true, false, false, false, false, true, false, false, false] rfl rfl (by kernel_rfl) (fun _ _ _ h => h) (Or.inl ⟨by rfl, ?_⟩) ?_ ?_
          rotate_left
          · intro w'
            go_simp
            with_reducible rfl
          rotate_left
          · simp only [Act.put, List.setIfInBounds_toArray, List.set_cons_zero, List.set_cons_succ, i64_w, i32_w]
            rfl
          refine pure_ (i := 11) (N := some 61) (v := ?_) (a' := ?_) #[true, true, true, true, true, true, true, true, true, true, true, true, false, false, false, true, false, false, false] rfl rfl (by kernel_rfl) (fun _ _ _ h => h) (Or.inl ⟨by rfl, ?_⟩) ?_ ?_
          rotate_left
          · intro w'
            go_simp
            with_reducible rfl
          rotate_left
          · simp only [Act.put, List.setIfInBounds_toArray, List.set_cons_zero, List.set_cons_succ, i64_w, i32_w]
            rfl
          refine pure_ (i := 12) (N := some 62) (v := ?_) (a' := ?_) #[true, true, true, true, true, true, true, true, true, true, true, true, true, false, false, true, false, false, false] rfl rfl (by kernel_rfl) (fun _ _ _ h => h) (Or.inl ⟨by rfl, ?_⟩) ?_ ?_
          rotate_left
          · intro w'
            go_simp
            with_reducible rfl
          rotate_left
          · simp only [Act.put, List.setIfInBounds_toArray, List.set_cons_zero, List.set_cons_succ, i64_w, i32_w]
            rfl
          refine pure_ (i := 13) (N := some 63) (v := ?_) (a' := ?_) #[true, true, true, true, true, true, true, true, true, true, true, true, true, true, false, true, false, false, false] rfl rfl (by kernel_rfl) (fun _ _ _ h => h) (Or.inl ⟨by rfl, ?_⟩) ?_ ?_
          rotate_left
          · intro w'
            go_simp
            with_reducible rfl
          rotate_left
          · simp only [Act.put, List.setIfInBounds_toArray, List.set_cons_zero, List.set_cons_succ, i64_w, i32_w]
            rfl
          refine one_ (i := 14) (N := some 10) #[true, true, true, true, true, true, true, true, true, true, true, true, true, true, true, true, false, false, false] rfl rfl (by kernel_rfl) (by decide) (fun K hK => ?_)
          refine value_ (w1 := ?_) (v := ?_) (by rfl) rfl ?_ ?_
          rotate_left 2
          · go_simp
            constructor
            · rfl
            · rfl
          have HG14 := Aside0.mk (show w.heap.size ≤ w5.heap.size from by have h := HX.out.below.size; first | exact h | (simp at h; omega))
          have HX := Aside0.mk (HX.out.boxed #[.int .i64 0, .slice none 0 0, .slice none 0 0] 25 (w5.heap.size) (by first | rfl | simp) (by decide))
          refine hK.out _ _ ⟨(HX.out.c (List.mem_cons_of_mem _ (List.mem_cons_of_mem _ (List.mem_cons_of_mem _ (List.mem_cons_of_mem _ List.mem_cons_self)))) 0), (HX.out.c (List.mem_cons_of_mem _ (List.mem_cons_of_mem _ (List.mem_cons_of_mem _ (List.mem_cons_of_mem _ List.mem_cons_self)))) 1), (HX.out.c (List.mem_cons_of_mem _ (List.mem_cons_of_mem _ (List.mem_cons_of_mem _ (List.mem_cons_of_mem _ List.mem_cons_self)))) 2), (HX.out.c (List.mem_cons_of_mem _ (List.mem_cons_of_mem _ (List.mem_cons_of_mem _ (List.mem_cons_of_mem _ List.mem_cons_self)))) 3), (HX.out.c (List.mem_cons_of_mem _ (List.mem_cons_of_mem _ (List.mem_cons_of_mem _ (List.mem_cons_of_mem _ List.mem_cons_self)))) 4)⟩ (fun hHeld => ?_)
          clear hK K
          refine norm_ (a' := ?_) ?_ ?_
          rotate_left
          · show Act.put _ (some 10) _ = _
            simp only [Act.put, List.setIfInBounds_toArray, List.set_cons_zero, List.set_cons_succ, i64_w, i32_w]
            rfl
          exact norm_ (by first | (simp only [putAll, Act.put, List.setIfInBounds_toArray, List.set_cons_zero, List.set_cons_succ]; done) | (simp only [putAll, Act.put, List.setIfInBounds_toArray, List.set_cons_zero, List.set_cons_succ]; rfl)) (hCont (w5.heap.size, w3.heap.size, w3.heap.size + 1, B1, d1_, B2, d2_) _ ⟨HX.out.subb _ (by simp), HG14.out, HG15.out⟩)
        · skip
          refine value_ (w1 := ?_) (v := ?_) (by rfl) rfl ?_ ?_
          rotate_left 2
          · go_simp
            constructor
            · rfl
            · rfl
          have HG14 := Aside0.mk (show w.heap.size ≤ w4.heap.size from by have h := HX.out.below.size; first | exact h | (simp at h; omega))
          have HX := Aside0.mk (HX.out.boxed #[.int .i64 0, .slice none 0 0, .slice none 0 0] 25 (w4.heap.size) (by first | rfl | simp) (by decide))
          have HM := Aside0.mk (HM.out.step (below_alloc (Below.refl _ _) (.cells #[.int .i64 0, .slice none 0 0, .slice none 0 0] 25)))
          refine hK.out _ _ ⟨(HX.out.c (List.mem_cons_of_mem _ (List.mem_cons_of_mem _ (List.mem_cons_of_mem _ (List.mem_cons_of_mem _ List.mem_cons_self)))) 0), (HX.out.c (List.mem_cons_of_mem _ (List.mem_cons_of_mem _ (List.mem_cons_of_mem _ (List.mem_cons_of_mem _ List.mem_cons_self)))) 1), (HX.out.c (List.mem_cons_of_mem _ (List.mem_cons_of_mem _ (List.mem_cons_of_mem _ (List.mem_cons_of_mem _ List.mem_cons_self)))) 2), (HX.out.c (List.mem_cons_of_mem _ (List.mem_cons_of_mem _ (List.mem_cons_of_mem _ (List.mem_cons_of_mem _ List.mem_cons_self)))) 3), (HX.out.c (List.mem_cons_of_mem _ (List.mem_cons_of_mem _ (List.mem_cons_of_mem _ (List.mem_cons_of_mem _ List.mem_cons_self)))) 4)⟩ (fun hHeld => ?_)
          clear hK K
          refine norm_ (a' := ?_) ?_ ?_
          rotate_left
          · show Act.put _ (some 10) _ = _
            simp only [Act.put, List.setIfInBounds_toArray, List.set_cons_zero, List.set_cons_succ, i64_w, i32_w]
            rfl
          refine one_ (i := 9) (N := some 60) #[true, true, true, true, true, true, true, true, true, true, false, false, false, false, true, true, false, false, false] rfl rfl (by kernel_rfl) (by decide) (fun K hK => ?_)
          refine goes_ Try.func13 (by kernel_rfl) rfl #[.slice A0 code.length c0, .agg #[.int .i64 pc, .slice A2 st.length c2, .slice A3 ca.length c3], .iface 29 (.pointer (some ⟨w3.heap.size + 1, 0, none⟩)), .int .i64 fuel] (by rfl) rfl rfl (by simp only [List.map_toArray, List.map_cons, List.map_nil]; rfl) ?_
          with_reducible refine (runE (s := ⟨pc, st, ca⟩) HX.out (Kd.C_below H0.out HX.out.below) HC.out.1 (Kd.C_below H2.out HX.out.below) (Kd.C_below H3.out HX.out.below) HM.out (far_in H0.out HM.out) (HRA.out _)).mono ?_
          rintro e w5 ⟨B1, d1_, B2, d2_, v5, rfl, hE, _, _, _⟩
          refine ⟨_, rfl, ?_⟩
          have HX := Aside0.mk (hE.subb _ (fun b hb => hb))
          clear hE
          refine hK.out _ _ ⟨(HX.out.c (List.mem_cons_of_mem _ (List.mem_cons_of_mem _ (List.mem_cons_of_mem _ (List.mem_cons_of_mem _ List.mem_cons_self)))) 0), (HX.out.c (List.mem_cons_of_mem _ (List.mem_cons_of_mem _ (List.mem_cons_of_mem _ (List.mem_cons_of_mem _ List.mem_cons_self)))) 1), (HX.out.c (List.mem_cons_of_mem _ (List.mem_cons_of_mem _ (List.mem_cons_of_mem _ (List.mem_cons_of_mem _ List.mem_cons_self)))) 2), (HX.out.c (List.mem_cons_of_mem _ (List.mem_cons_of_mem _ (List.mem_cons_of_mem _ (List.mem_cons_of_mem _ List.mem_cons_self)))) 3), (HX.out.c (List.mem_cons_of_mem _ (List.mem_cons_of_mem _ (List.mem_cons_of_mem _ (List.mem_cons_of_mem _ List.mem_cons_self)))) 4)⟩ (fun hHeld => ?_)
          clear hK K
          refine norm_ (a' := ?_) ?_ ?_
          rotate_left
          · show Act.put _ (some 60) _ = _
            simp only [Act.put, List.setIfInBounds_toArray, List.set_cons_zero, List.set_cons_succ, i64_w, i32_w]
            rfl
          refine pure_ (i := 10) (N := some 50) (v := ?_) (a' := ?_) #[true, true, true, true, true, true, true, true, true, true, true, false, false, false, true, true, false, false, false] rfl rfl (by kernel_rfl) (fun _ _ _ h => h) (Or.inl ⟨by rfl, ?_⟩) ?_ ?_
          rotate_left
          · intro w'
            go_simp
            with_reducible rfl
          rotate_left
          · simp only [Act.put, List.setIfInBounds_toArray, List.set_cons_zero, List.set_cons_succ, i64_w, i32_w]
            rfl
          refine pure_ (i := 11) (N := some 61) (v := ?_) (a' := ?_) #[true, true, true, true, true, true, true, true, true, true, true, true, false, false, true, true, false, false, false] rfl rfl (by kernel_rfl) (fun _ _ _ h => h) (Or.inl ⟨by rfl, ?_⟩) ?_ ?_
          rotate_left
          · intro w'
            go_simp
            with_reducible rfl
          rotate_left
          · simp only [Act.put, List.setIfInBounds_toArray, List.set_cons_zero, List.set_cons_succ, i64_w, i32_w]
            rfl
          refine pure_ (i := 12) (N := some 62) (v := ?_) (a' := ?_) #[true, true, true, true, true, true, true, true, true, true, true, true, true, false, true, true, false, false, false] rfl rfl (by kernel_rfl) (fun _ _ _ h => h) (Or.inl ⟨by rfl, ?_⟩) ?_ ?_
          rotate_left
          · intro w'
            go_simp
            with_reducible rfl
          rotate_left
          · simp only [Act.put, List.setIfInBounds_toArray, List.set_cons_zero, List.set_cons_succ, i64_w, i32_w]
            rfl
          refine pure_ (i := 13) (N := some 63) (v := ?_) (a' := ?_) #[true, true, true, true, true, true, true, true, true, true, true, true, true, true, true, true, false, false, false] rfl rfl (by kernel_rfl) (fun _ _ _ h => h) (Or.inl ⟨by rfl, ?_⟩) ?_ ?_
          rotate_left
          · intro w'
            go_simp
            with_reducible rfl
          rotate_left
          · simp only [Act.put, List.setIfInBounds_toArray, List.set_cons_zero, List.set_cons_succ, i64_w, i32_w]
            rfl
          exact norm_ (by first | (simp only [putAll, Act.put, List.setIfInBounds_toArray, List.set_cons_zero, List.set_cons_succ]; done) | (simp only [putAll, Act.put, List.setIfInBounds_toArray, List.set_cons_zero, List.set_cons_succ]; rfl)) (hCont (w4.heap.size, w3.heap.size, w3.heap.size + 1, B1, d1_, B2, d2_) _ ⟨HX.out.subb _ (by simp), HG14.out, HG15.out⟩)
      · skip
        refine value_ (w1 := ?_) (v := ?_) (by rfl) rfl ?_ ?_
        rotate_left 2
        · go_simp
          constructor
          · rfl
          · rfl
        have HG14 := Aside0.mk (show w.heap.size ≤ w3.heap.size + 1 from by have h := HX.out.below.size; first | exact h | (simp at h; omega))
        have HX := Aside0.mk (HX.out.boxed #[.int .i64 0, .slice none 0 0, .slice none 0 0] 25 (w3.heap.size + 1) (by first | rfl | simp) (by decide))
        refine hK.out _ _ ⟨(HX.out.c (List.mem_cons_of_mem _ (List.mem_cons_of_mem _ (List.mem_cons_of_mem _ (List.mem_cons_of_mem _ List.mem_cons_self)))) 0), (HX.out.c (List.mem_cons_of_mem _ (List.mem_cons_of_mem _ (List.mem_cons_of_mem _ (List.mem_cons_of_mem _ List.mem_cons_self)))) 1), (HX.out.c (List.mem_cons_of_mem _ (List.mem_cons_of_mem _ (List.mem_cons_of_mem _ (List.mem_cons_of_mem _ List.mem_cons_self)))) 2), (HX.out.c (List.mem_cons_of_mem _ (List.mem_cons_of_mem _ (List.mem_cons_of_mem _ (List.mem_cons_of_mem _ List.mem_cons_self)))) 3), (HX.out.c (List.mem_cons_of_mem _ (List.mem_cons_of_mem _ (List.mem_cons_of_mem _ (List.mem_cons_of_mem _ List.mem_cons_self)))) 4)⟩ (fun hHeld => ?_)
        clear hK K
        refine norm_ (a' := ?_) ?_ ?_
        rotate_left
        · show Act.put _ (some 10) _ = _
          simp only [Act.put, List.setIfInBounds_toArray, List.set_cons_zero, List.set_cons_succ, i64_w, i32_w]
          rfl
        refine one_ (i := 6) (N := some 57) #[true, true, true, true, true, true, true, false, true, false, false, false, false, false, true, true, false, false, false] rfl rfl (by kernel_rfl) (by decide) (fun K hK => ?_)
        refine goes_ Try.func11 (by kernel_rfl) rfl #[.string mem] (by rfl) rfl rfl (by simp only [List.map_toArray, List.map_cons, List.map_nil]; rfl) ?_
        with_reducible refine (fillE (HX.out.step (below_drew (Below.refl _ _))) mem HC.out.2.2.2 (w3.heap.size + 1 + 1) (by first | rfl | simp)).mono ?_
        rintro e w4 ⟨v, rfl, hE, hM, _⟩
        refine ⟨_, rfl, ?_⟩
        have HX := Aside0.mk hE
        have HM := Aside0.mk hM
        clear hE hM
        refine hK.out _ _ ⟨(HX.out.c (List.mem_cons_of_mem _ (List.mem_cons_of_mem _ (List.mem_cons_of_mem _ (List.mem_cons_of_mem _ List.mem_cons_self)))) 0), (HX.out.c (List.mem_cons_of_mem _ (List.mem_cons_of_mem _ (List.mem_cons_of_mem _ (List.mem_cons_of_mem _ List.mem_cons_self)))) 1), (HX.out.c (List.mem_cons_of_mem _ (List.mem_cons_of_mem _ (List.mem_cons_of_mem _ (List.mem_cons_of_mem _ List.mem_cons_self)))) 2), (HX.out.c (List.mem_cons_of_mem _ (List.mem_cons_of_mem _ (List.mem_cons_of_mem _ (List.mem_cons_of_mem _ List.mem_cons_self)))) 3), (HX.out.c (List.mem_cons_of_mem _ (List.mem_cons_of_mem _ (List.mem_cons_of_mem _ (List.mem_cons_of_mem _ List.mem_cons_self)))) 4)⟩ (fun hHeld => ?_)
        clear hK K
        refine norm_ (a' := ?_) ?_ ?_
        rotate_left
        · show Act.put _ (some 57) _ = _
          simp only [Act.put, List.setIfInBounds_toArray, List.set_cons_zero, List.set_cons_succ, i64_w, i32_w]
          rfl
        refine pure_ (i := 7) (N := some 58) (v := ?_) (a' := ?_) #[true, true, true, true, true, true, true, true, true, false, false, false, false, false, true, true, false, false, false] rfl rfl (by kernel_rfl) (fun _ _ _ h => h) (Or.inl ⟨by rfl, ?_⟩) ?_ ?_
        rotate_left
        · intro w'
          go_simp
          with_reducible rfl
        rotate_left
        · simp only [Act.put, List.setIfInBounds_toArray, List.set_cons_zero, List.set_cons_succ, i64_w, i32_w]
          rfl
        refine one_ (i := 9) (N := some 60) #[true, true, true, true, true, true, true, true, true, true, false, false, false, false, true, true, false, false, false] rfl rfl (by kernel_rfl) (by decide) (fun K hK => ?_)
        refine goes_ Try.func13 (by kernel_rfl) rfl #[.slice A0 code.length c0, .agg #[.int .i64 pc, .slice A2 st.length c2, .slice A3 ca.length c3], .iface 29 (.pointer (some ⟨w3.heap.size + 1 + 1, 0, none⟩)), .int .i64 fuel] (by rfl) rfl rfl (by simp only [List.map_toArray, List.map_cons, List.map_nil]; rfl) ?_
        with_reducible refine (runE (s := ⟨pc, st, ca⟩) HX.out (Kd.C_below H0.out HX.out.below) HC.out.1 (Kd.C_below H2.out HX.out.below) (Kd.C_below H3.out HX.out.below) HM.out (far_in H0.out HM.out) (HRA.out _)).mono ?_
        rintro e w5 ⟨B1, d1_, B2, d2_, v5, rfl, hE, _, _, _⟩
        refine ⟨_, rfl, ?_⟩
        have HX := Aside0.mk (hE.subb _ (fun b hb => hb))
        clear hE
        refine hK.out _ _ ⟨(HX.out.c (List.mem_cons_of_mem _ (List.mem_cons_of_mem _ (List.mem_cons_of_mem _ (List.mem_cons_of_mem _ List.mem_cons_self)))) 0), (HX.out.c (List.mem_cons_of_mem _ (List.mem_cons_of_mem _ (List.mem_cons_of_mem _ (List.mem_cons_of_mem _ List.mem_cons_self)))) 1), (HX.out.c (List.mem_cons_of_mem _ (List.mem_cons_of_mem _ (List.mem_cons_of_mem _ (List.mem_cons_of_mem _ List.mem_cons_self)))) 2), (HX.out.c (List.mem_cons_of_mem _ (List.mem_cons_of_mem _ (List.mem_cons_of_mem _ (List.mem_cons_of_mem _ List.mem_cons_self)))) 3), (HX.out.c (List.mem_cons_of_mem _ (List.mem_cons_of_mem _ (List.mem_cons_of_mem _ (List.mem_cons_of_mem _ List.mem_cons_self)))) 4)⟩ (fun hHeld => ?_)
        clear hK K
        refine norm_ (a' := ?_) ?_ ?_
        rotate_left
        · show Act.put _ (some 60) _ = _
          simp only [Act.put, List.setIfInBounds_toArray, List.set_cons_zero, List.set_cons_succ, i64_w, i32_w]
          rfl
        refine pure_ (i := 10) (N := some 50) (v := ?_) (a' := ?_) #[true, true, true, true, true, true, true, true, true, true, true, false, false, false, true, true, false, false, false] rfl rfl (by kernel_rfl) (fun _ _ _ h => h) (Or.inl ⟨by rfl, ?_⟩) ?_ ?_
        rotate_left
        · intro w'
          go_simp
          with_reducible rfl
        rotate_left
        · simp only [Act.put, List.setIfInBounds_toArray, List.set_cons_zero, List.set_cons_succ, i64_w, i32_w]
          rfl
        refine pure_ (i := 11) (N := some 61) (v := ?_) (a' := ?_) #[true, true, true, true, true, true, true, true, true, true, true, true, false, false, true, true, false, false, false] rfl rfl (by kernel_rfl) (fun _ _ _ h => h) (Or.inl ⟨by rfl, ?_⟩) ?_ ?_
        rotate_left
        · intro w'
          go_simp
          with_reducible rfl
        rotate_left
        · simp only [Act.put, List.setIfInBounds_toArray, List.set_cons_zero, List.set_cons_succ, i64_w, i32_w]
          rfl
        refine pure_ (i := 12) (N := some 62) (v := ?_) (a' := ?_) #[true, true, true, true, true, true, true, true, true, true, true, true, true, false, true, true, false, false, false] rfl rfl (by kernel_rfl) (fun _ _ _ h => h) (Or.inl ⟨by rfl, ?_⟩) ?_ ?_
        rotate_left
        · intro w'
          go_simp
          with_reducible rfl
        rotate_left
        · simp only [Act.put, List.setIfInBounds_toArray, List.set_cons_zero, List.set_cons_succ, i64_w, i32_w]
          rfl
        refine pure_ (i := 13) (N := some 63) (v := ?_) (a' := ?_) #[true, true, true, true, true, true, true, true, true, true, true, true, true, true, true, true, false, false, false] rfl rfl (by kernel_rfl) (fun _ _ _ h => h) (Or.inl ⟨by rfl, ?_⟩) ?_ ?_
        rotate_left
        · intro w'
          go_simp
          with_reducible rfl
        rotate_left
        · simp only [Act.put, List.setIfInBounds_toArray, List.set_cons_zero, List.set_cons_succ, i64_w, i32_w]
          rfl
        exact norm_ (by first | (simp only [putAll, Act.put, List.setIfInBounds_toArray, List.set_cons_zero, List.set_cons_succ]; done) | (simp only [putAll, Act.put, List.setIfInBounds_toArray, List.set_cons_zero, List.set_cons_succ]; rfl)) (hCont (w3.heap.size + 1, w3.heap.size, w3.heap.size + 1 + 1, B1, d1_, B2, d2_) _ ⟨HX.out.subb _ (by simp), HG14.out, HG15.out⟩)
  rintro ⟨n1, n2, mb, B1, d1_, B2, d2_⟩ w6 ⟨hF, g1_, g2_⟩
  dsimp only at hF g1_ g2_
  have c0_ := hF.c List.mem_cons_self 0
  have c1_ := hF.c List.mem_cons_self 1
  have c2_ := hF.c List.mem_cons_self 2
  have e0_ := hF.c (List.mem_cons_of_mem _ List.mem_cons_self) 0
  have e1_ := hF.c (List.mem_cons_of_mem _ List.mem_cons_self) 1
  have e2_ := hF.c (List.mem_cons_of_mem _ List.mem_cons_self) 2
  have f0_ := blk_frozen (hF.b List.mem_cons_self) 0
  have f1_ := blk_frozen (hF.b List.mem_cons_self) 1
  have f2_ := blk_frozen (hF.b List.mem_cons_self) 2
  have f3_ := blk_frozen (hF.b (List.mem_cons_of_mem _ List.mem_cons_self)) 0
  have f4_ := blk_frozen (hF.b (List.mem_cons_of_mem _ List.mem_cons_self)) 1
  have f5_ := blk_frozen (hF.b (List.mem_cons_of_mem _ List.mem_cons_self)) 2
  have hne := hF.apart List.mem_cons_self (List.mem_cons_of_mem _ List.mem_cons_self) (by decide)
  have HZ := Aside0.mk (hF.subb [] (by simp))
  have HN := Aside0.mk (And.intro g1_ g2_)
  clear hF g1_ g2_
  have hHeld := True.intro
  refine norm_ (a' := ?_) ?_ ?_
  rotate_left
  · simp only [putAll, Act.put, List.setIfInBounds_toArray, List.set_cons_zero, List.set_cons_succ]
    rfl
  refine last_ (i := 16) (N := none) #[true, true, true, true, true, true, true, true, true, true, true, true, true, true, true, true, true, false, false] rfl rfl (by kernel_rfl) (by decide) (fun K hK => ?_)
  refine skip_ (w1 := ?_) (by rfl) rfl ?_ ?_
  rotate_left
  · go_simp
    rfl
  refine hK.out _ _ ?_
  clear hK K
  refine last_ (i := 17) (N := none) #[true, true, true, true, true, true, true, true, true, true, true, true, true, true, true, true, true, true, false] rfl rfl (by kernel_rfl) (by decide) (fun K hK => ?_)
  refine skip_ (w1 := ?_) (by rfl) rfl ?_ ?_
  rotate_left
  · go_simp
    rfl
  refine hK.out _ _ ?_
  clear hK K
  refine pure_ (i := 18) (N := some 12) (v := ?_) (a' := ?_) #[true, true, true, true, true, true, true, true, true, true, true, true, true, true, true, true, true, true, true] rfl rfl (by kernel_rfl) (fun _ _ _ h => h) (Or.inl ⟨by rfl, ?_⟩) ?_ ?_
  rotate_left
  · intro w'
    go_simp
    with_reducible rfl
  rotate_left
  · simp only [Act.put, List.setIfInBounds_toArray, List.set_cons_zero, List.set_cons_succ, i64_w, i32_w]
    rfl
  refine done_ (by kernel_rfl) ?_

  go_wp2_with (go_at_call 10; (with_reducible refine (awakeE (by repeat' (first | exact HZ.out | refine LE.set1 ?_ (by first | exact HN.out.1 | exact HN.out.2)))).mono ?_); rintro e w9 ⟨rfl, hE⟩; have HE6 := Aside0.mk hE; clear hE)
  go_ret
  exact ⟨rfl, HE6.out.below⟩
set_option maxHeartbeats 8000000 in
set_option maxRecDepth 100000 in
theorem args_ok_in (A0 : Option Addr) (c0 : Nat) (code : List In) (pc : Int) (A2 : Option Addr) (c2 : Nat) (st : List Int) (A3 : Option Addr) (c3 : Nat) (ca : List Int) (mem : ByteArray) (fuel : Int) (w : World) (hr0 : Kd.C kIn w A0 code.length code) (hc0 : code.length ≤ c0) (hr2 : Kd.C (Kd.int .i64) w A2 st.length st) (hc2 : st.length ≤ c2) (hr3 : Kd.C (Kd.int .i64) w A3 ca.length ca) (hc3 : ca.length ≤ c3) (hmem : mem.size ≤ 140737488355328) (hx : (chkP code).1 = 0) (hf : 0 ≤ fuel ∧ fuel ≤ 1048576) :
    Calls Try.prog 6 #[.agg #[.slice A0 code.length c0, .int .i64 pc, .slice A2 st.length c2, .slice A3 ca.length c3, .string mem], .int .i64 fuel] w (BPost w true) := by
  have hu := Try.underlying25
  have hu2 := Try.underlying33
  have hu3 := Try.underlying27
  have HE0 := Aside0.mk ((LE.start w).boxed #[.slice A0 code.length c0, .int .i64 pc, .slice A2 st.length c2, .slice A3 ca.length c3, .string mem] 27 _ rfl (by decide))
  have H0 := Aside0.mk hr0
  have H2 := Aside0.mk hr2
  have H3 := Aside0.mk hr3
  have HC := Aside0.mk (And.intro hc0 (And.intro hc2 (And.intro hc3 hmem)))
  clear hr0 hr2 hr3 hc0 hc2 hc3 hmem
  rcases hxy : chkP code with ⟨x, y⟩
  rw [hxy] at hx
  dsimp only at hx
  subst hx
  have HK := Aside0.mk hxy
  have HNE := Aside0.mk (show (if (chkP code).1 = 0 then 1 else (chkP code).1) = 1 from by rw [hxy]; rfl)
  have t0 : decide (fuel < 0) = false := decide_eq_false (by omega)
  have t1 : decide (fuel > 1048576) = false := decide_eq_false (by omega)
  have t2 : decide (1048576 < fuel) = false := decide_eq_false (by omega)
  clear hxy hf
  go_enter Try.func6, Try.ntmps6
  go_wp2_with (first
    | (go_at_call 13; (with_reducible refine (nilE (s := ⟨pc, st, ca⟩) HE0.out H0.out HC.out.1 H3.out HNE.out).mono ?_); rintro e w1 ⟨rfl, hE⟩; have HE1 := Aside0.mk hE; have hE2 := ((HE1.out.boxed #[.int .i64 0, .slice none 0 0, .slice none 0 0] 25 (w1.heap.size) rfl (by decide)).boxed #[.int .i64 0, .int .i64 0, .int .i64 0] 33 (w1.heap.size + 1) (by simp) (by decide)); have a0 := hE2.c (List.mem_cons_of_mem _ (List.mem_cons_of_mem _ List.mem_cons_self)) 0; have a1 := hE2.c (List.mem_cons_of_mem _ (List.mem_cons_of_mem _ List.mem_cons_self)) 1; have a2 := hE2.c (List.mem_cons_of_mem _ (List.mem_cons_of_mem _ List.mem_cons_self)) 2; have a3 := hE2.c (List.mem_cons_of_mem _ (List.mem_cons_of_mem _ List.mem_cons_self)) 3; have a4 := hE2.c (List.mem_cons_of_mem _ (List.mem_cons_of_mem _ List.mem_cons_self)) 4; have b0 := hE2.c (List.mem_cons_of_mem _ List.mem_cons_self) 0; have b1 := hE2.c (List.mem_cons_of_mem _ List.mem_cons_self) 1; have b2 := hE2.c (List.mem_cons_of_mem _ List.mem_cons_self) 2; have d0 := hE2.c List.mem_cons_self 0; have d1 := hE2.c List.mem_cons_self 1; have d2 := hE2.c List.mem_cons_self 2; clear hE hE2)
    | (go_at_call 16; (with_reducible refine (rchkE ((HE1.out.boxed #[.int .i64 0, .slice none 0 0, .slice none 0 0] 25 (w1.heap.size) rfl (by decide)).boxed #[.int .i64 0, .int .i64 0, .int .i64 0] 33 (w1.heap.size + 1) (by simp) (by decide)) (Kd.C_below H0.out ((HE1.out.boxed #[.int .i64 0, .slice none 0 0, .slice none 0 0] 25 (w1.heap.size) rfl (by decide)).boxed #[.int .i64 0, .int .i64 0, .int .i64 0] 33 (w1.heap.size + 1) (by simp) (by decide)).below) HC.out.1 HK.out).mono ?_); rintro e w2 ⟨rfl, hE⟩; have HE2 := Aside0.mk hE; clear a0 a1 a2 a3 a4; clear b0 b1 b2 d0 d1 d2; have a0 := hE.c (List.mem_cons_of_mem _ (List.mem_cons_of_mem _ List.mem_cons_self)) 0; have a1 := hE.c (List.mem_cons_of_mem _ (List.mem_cons_of_mem _ List.mem_cons_self)) 1; have a2 := hE.c (List.mem_cons_of_mem _ (List.mem_cons_of_mem _ List.mem_cons_self)) 2; have a3 := hE.c (List.mem_cons_of_mem _ (List.mem_cons_of_mem _ List.mem_cons_self)) 3; have a4 := hE.c (List.mem_cons_of_mem _ (List.mem_cons_of_mem _ List.mem_cons_self)) 4; have b0 := hE.c (List.mem_cons_of_mem _ List.mem_cons_self) 0; have b1 := hE.c (List.mem_cons_of_mem _ List.mem_cons_self) 1; have b2 := hE.c (List.mem_cons_of_mem _ List.mem_cons_self) 2; have d0 := hE.c List.mem_cons_self 0; have d1 := hE.c List.mem_cons_self 1; have d2 := hE.c List.mem_cons_self 2; clear hE)
    | (go_at_call 15; (with_reducible refine (zsameE HE2.out).mono ?_); rintro e w3 ⟨rfl, hE⟩; have HE3 := Aside0.mk hE; clear a0 a1 a2 a3 a4; clear b0 b1 b2 d0 d1 d2; have a0 := hE.c (List.mem_cons_of_mem _ (List.mem_cons_of_mem _ List.mem_cons_self)) 0; have a1 := hE.c (List.mem_cons_of_mem _ (List.mem_cons_of_mem _ List.mem_cons_self)) 1; have a2 := hE.c (List.mem_cons_of_mem _ (List.mem_cons_of_mem _ List.mem_cons_self)) 2; have a3 := hE.c (List.mem_cons_of_mem _ (List.mem_cons_of_mem _ List.mem_cons_self)) 3; have a4 := hE.c (List.mem_cons_of_mem _ (List.mem_cons_of_mem _ List.mem_cons_self)) 4; clear hE)
    | (go_at_call 10; (with_reducible refine (awakeE HE3.out).mono ?_); rintro e w6 ⟨rfl, hE⟩; have HE6 := Aside0.mk hE; clear hE))
  go_ret
  exact ⟨rfl, HE6.out.below⟩
end Go.Proofs.Ytbdamgopggeikaa.VmW
