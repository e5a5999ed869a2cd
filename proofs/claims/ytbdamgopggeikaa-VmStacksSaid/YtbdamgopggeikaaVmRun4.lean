/- vm.Run: the run. -/
import Derived.Test.YtbdamgopggeikaaVmRun2
namespace Go.Proofs.Ytbdamgopggeikaa.VmW
open Go.RowKit Go.Proofs.YtbdamgopggeikaaW.PrintWords Go.Proofs.YtbdamgopggeikaaW.PrintMore Go.Proofs.YtbdamgopggeikaaW.PrintLast Go.Proofs.Ytbdamgopggeikaa.Pvm
set_option linter.unusedVariables false
set_option linter.unusedSimpArgs false
/-- The machine, made of a copied state. -/
theorem RE.begin_ {W w2 w3 : World} {bx : Array Value} {Ac : Option Addr} {cc : Nat} {code : List In} {p : Value} {f : Nat → Prop} {s : St} {m : Mem} {B1 B2 : Option Addr} {d1 d2 : Nat} (h2 : R0 W w2 bx) (hC : Kd.C kIn W Ac code.length code) (hlt : ∀ ad, Ac = some ad → 0 < code.length → ¬ f ad.block) (hm : MemP W p f m)
    (ho1 : w3.ownsRow w2.heap.size 3 1 (.slice B1 s.st.length d1) s.st.length (nums .i64 s.st)) (ho2 : w3.ownsRow w2.heap.size 3 1 (.slice B2 s.ca.length d2) s.ca.length (nums .i64 s.ca)) (hne : NeRow (.slice B1 s.st.length d1) (.slice B2 s.ca.length d2)) (hb : Below w2.heap.size w2 w3) :
    RE W w3.heap.size Ac cc code p f f (.slice B1 s.st.length d1) (.slice B2 s.ca.length d2) s m (w3.alloc (.cells #[.slice Ac code.length cc, .int .i64 s.pc, .slice B1 s.st.length d1, .slice B2 s.ca.length d2, memI p] 64)) := by
  have h3 := h2.step hb
  have hz : W.heap.size + 3 ≤ w2.heap.size := blk_lt h2.b9
  have hz3 : w2.heap.size ≤ w3.heap.size := hb.size
  have hb3 := below_alloc (Below.refl w3.heap.size w3) (.cells #[.slice Ac code.length cc, .int .i64 s.pc, .slice B1 s.st.length d1, .slice B2 s.ca.length d2, memI p] 64)
  have h4 := h3.step hb3
  have hfl := hm.lt
  refine ⟨⟨heap_alloc_new w3 _, Kd.C_below hC h4.below, fun ad e hp => ⟨?_, hlt ad e hp⟩, by omega, own_less (own_alloc ho1 _) (by omega), own_less (own_alloc ho2 _) (by omega), hne, hm.mv (Mv.of_below h4.below (fun _ => False)) (fun _ _ e => e), fun k hk => ⟨?_, fun e => ?_, fun e => ?_⟩⟩, Mv.of_below h4.below f, fun k e => .inl e, h4.b8, h4.b9⟩
  · obtain ⟨b, o, e2, hb, _⟩ := code_at hC hp
    rw [e] at e2
    have := congrArg Addr.block (Option.some.inj e2)
    simp only at this
    omega
  · have := hfl k hk; omega
  · have := own_base ho1 k e; have := hfl k hk; omega
  · have := own_base ho2 k e; have := hfl k hk; omega
theorem drew_cell (w : World) (a : Addr) : w.drew.cell? a = w.cell? a := rfl
def LR (W : World) (g : Nat) (Ac : Option Addr) (cc : Nat) (code : List In) (p : Value) (f : Nat → Prop) (F : Nat) (s0 : St) (m0 : Mem) (k : Nat) (wr : World) : Prop :=
  ∃ f' B1 d1 B2 d2 s m, RE W g Ac cc code p f f' (.slice B1 s.st.length d1) (.slice B2 s.ca.length d2) s m wr ∧ mayP s code.length ∧ runP memK code F 0 s0 m0 = runP memK code (F - k) k s m
set_option maxHeartbeats 8000000 in
set_option maxRecDepth 100000 in
theorem run_go (W : World) (Ac : Option Addr) (cc : Nat) (code : List In) (hC : Kd.C kIn W Ac code.length code) (hcap : code.length ≤ cc) (s : St) (A1 A2 : Option Addr) (c1 c2 : Nat) (h1 : Kd.C (Kd.int .i64) W A1 s.st.length s.st) (h2 : Kd.C (Kd.int .i64) W A2 s.ca.length s.ca)
    (p : Value) (f : Nat → Prop) (m : Mem) (hm : MemP W p f m) (hfar : ∀ ad, Ac = some ad → 0 < code.length → ¬ f ad.block) (F : Nat) (hF : F ≤ 1048576) (hc : chkP code = (0, 0)) (hs : mayP s code.length) :
    Calls Try.prog 13 #[.slice Ac code.length cc, stV s A1 c1 A2 c2, memI p, .int .i64 (F : Int)] W (RunPost W p f ⟨(runP memK code F 0 s m).1, (runP memK code F 0 s m).2.1, (runP memK code F 0 s m).2.2.1, (runP memK code F 0 s m).2.2.2.1, (runP memK code F 0 s m).2.2.2.2, 0⟩) := by
  unfold stV memI
  have hu := Try.underlying25
  have h0 := R0.mk_ W #[.int .i64 s.pc, .slice A1 s.st.length c1, .slice A2 s.ca.length c2]
  have HK := Aside0.mk ((check_calls _ Ac cc code (Kd.C_below hC h0.below) hcap).mono (fun (e : Ending) (w' : World) (h : TwoPost _ (chkP code).1 (chkP code).2 e w') => (show TwoPost _ 0 0 e w' from by rw [hc] at h; exact h)))
  have H0 := Aside0.mk h0
  have HMY := Aside0.mk (fun (w : World) (hb : Below W.heap.size W w) => may_calls w s code.length A1 A2 c1 c2 (Kd.C_below h2 hb))
  have HCP := Aside0.mk (fun (w : World) (hb : Below W.heap.size W w) => copied_calls w s A1 A2 c1 c2 (Kd.C_below h1 hb) (Kd.C_below h2 hb) (by have := hs.2.2.1; omega) (by have := hs.2.2.2.1; omega))
  have HBG := Aside0.mk (fun (w2 w3 : World) B1 B2 d1 d2 h2 ho1 ho2 hne hb => RE.begin_ (W := W) (w2 := w2) (w3 := w3) (bx := #[.int .i64 s.pc, .slice A1 s.st.length c1, .slice A2 s.ca.length c2]) (cc := cc) (p := p) (f := f) (s := s) (m := m) (B1 := B1) (B2 := B2) (d1 := d1) (d2 := d2) h2 hC hfar hm ho1 ho2 hne hb)
  have hok := chkP_ok.1 (show (chkP code).1 = 0 by rw [hc])
  have HOK := Aside0.mk hok
  have HS := Aside0.mk hs
  have HLT := Aside0.mk hm.lt
  have HF := Aside0.mk hF
  have hF0 : (0 : Int) ≤ (F : Int) := by omega
  have hF1 : (F : Int) ≤ 1048576 := by omega
  have t0 : decide ((F : Int) < 0) = false := decide_eq_false (by omega)
  have t1 : decide ((F : Int) > 1048576) = false := decide_eq_false (by omega)
  have t2 : decide (1048576 < (F : Int)) = false := decide_eq_false (by omega)
  have HD := Aside0.mk (decide_eq_true hs)
  clear hC hcap h0 h1 h2 hc hm hfar hok hs hF
  go_enter Try.func13, Try.ntmps13
  go_wp2_with (first
    | (go_at_call 24; (with_reducible refine HK.out.mono ?_); rintro e w1 ⟨rfl, hb⟩; have H1 := Aside0.mk (H0.out.step hb); clear hb; obtain ⟨a0, a1, a2, a3, a4, a5, a6, a7, a8, a9, b0, b1, b2, b3, b4⟩ := H1.out.cells)
    | (go_at_call 25; (with_reducible refine (HMY.out w1 H1.out.below).mono ?_); rintro e w2 ⟨he, hb⟩; rw [HD.out] at he; subst he; have H2 := Aside0.mk (H1.out.step hb); clear hb a0 a1 a2 a3 a4 a5 a6 a7 a8 a9 b0 b1 b2 b3 b4; obtain ⟨a0, a1, a2, a3, a4, a5, a6, a7, a8, a9, b0, b1, b2, b3, b4⟩ := H2.out.cells)
    | (go_at_call 26; (with_reducible refine (HCP.out w2 H2.out.below).mono ?_); rintro e w3 ⟨B1, d1, B2, d2, rfl, ho1, ho2, hne, hb⟩; have HRE := Aside0.mk (HBG.out w2 w3 B1 B2 d1 d2 H2.out ho1 ho2 hne hb); clear ho1 ho2 hne hb a0 a1 a2 a3 a4 a5 a6 a7 a8 a9 b0 b1 b2 b3 b4))
  clear HK H0 HMY HCP HBG HD H1 H2 t0 t1 t2
  go_loopw [14] (fun u wr => ∃ k : Nat, k ≤ F ∧ u = .int .i64 ((k : Int) + 1) ∧ Aside0 (LR W w3.heap.size Ac cc code p f F s m k wr)) (fun u _ => F + 1 - (intOf u).toNat)
  case atStart => exact ⟨0, Nat.zero_le _, rfl, ⟨⟨f, B1, d1, B2, d2, s, m, HRE.out, HS.out, rfl⟩⟩⟩
  case round =>
    obtain ⟨k, hk, rfl, HLR⟩ := hrel
    obtain ⟨f', D1, d3, D2, d4, s', m', hre, hmay, hrun⟩ := HLR.out
    have HR' := Aside0.mk hre
    have HRN := Aside0.mk hrun
    have hkF : (k : Int) + 1 ≤ 1048577 := by omega
    have hk0 : (0 : Int) ≤ (k : Int) + 1 := by omega
    have HKF := Aside0.mk hk
    clear HRE HLR hrun hk
    by_cases hlt : k < F
    · have tk : decide ((k : Int) + 1 ≤ (F : Int)) = true := decide_eq_true (by omega)
      have hst := step_calls wr (W.heap.size + 3) w3.heap.size Ac cc code p f' _ _ s' m' hre.m hre.size hmay HOK.out.2.2 HOK.out.2.1
      have HST := Aside0.mk hst
      have HM4 := Aside0.mk (stepP_may memK (m := m') hmay HOK.out.2.2)
      have HLK := Aside0.mk hlt
      have HU := Aside0.mk (show runP memK code (F - k) k s' m' = if (stepP memK code s' m').2.2.1 = 0 then runP memK code (F - (k + 1)) (k + 1) (stepP memK code s' m').1 (stepP memK code s' m').2.1 else ((stepP memK code s' m').1, (stepP memK code s' m').2.1, (stepP memK code s' m').2.2.1, (stepP memK code s' m').2.2.2, ((k + 1 : Nat) : Int)) from by
        rw [show F - k = (F - (k + 1)) + 1 by omega]; rfl)
      clear hre hst hmay hlt
      generalize stepP memK code s' m' = r at *
      by_cases hz : r.2.2.1 = 0
      · have tz : (r.2.2.1 != 0) = false := by simpa using hz
        have HU2 := Aside0.mk (HU.out.trans (if_pos hz))
        clear hz HU
        go_wp2_with (go_at_call 27; (with_reducible refine HST.out.mono ?_); rintro e w4 hp; obtain ⟨f4, E1, e1_, E2, e2_, rfl, hre4⟩ := HR'.out.turn HLT.out hp; have HR4 := Aside0.mk hre4; clear hp hre4)
        go_roundw
        case rel => exact ⟨k + 1, by have := HLK.out; omega, by go_num, ⟨⟨f4, E1, e1_, E2, e2_, r.1, r.2.1, HR4.out.step (below_alloc (Below.refl _ _) _), HM4.out, HRN.out.trans HU2.out⟩⟩⟩
        case measure => have := HLK.out; simp [intOf]; omega
      · have tz : (r.2.2.1 != 0) = true := by simpa using hz
        have HU2 := Aside0.mk ((HU.out.trans (if_neg hz)).trans (show _ = (r.1, r.2.1, r.2.2.1, r.2.2.2, (k : Int) + 1) from rfl))
        clear hz HU
        go_wp2_with (go_at_call 27; (with_reducible refine HST.out.mono ?_); rintro e w4 hp; obtain ⟨f4, E1, e1_, E2, e2_, rfl, hre4⟩ := HR'.out.turn HLT.out hp; have HR4 := Aside0.mk hre4; clear hp hre4)
        have x9 := heap_alloc_new w4 (.cells #[.int .i64 r.2.2.1, .int .i64 r.2.2.2, .int .i64 ((k : Int) + 1)] 33)
        have HR5 := Aside0.mk (HR4.out.step (below_alloc (Below.refl _ _) (.cells #[.int .i64 r.2.2.1, .int .i64 r.2.2.2, .int .i64 ((k : Int) + 1)] 33)))
        generalize w4.alloc (.cells #[.int .i64 r.2.2.1, .int .i64 r.2.2.2, .int .i64 ((k : Int) + 1)] 33) = w5 at *
        obtain ⟨a1, a2, a3, a4, a5, a6, a7, a8, a9, b0, b1, b2, b3, b4, b5⟩ := HR5.out.cells
        have q0 := blk_cell x9 0
        have q1 := blk_cell x9 1
        have q2 := blk_cell x9 2
        have z3 : w3.heap.size ≠ W.heap.size + 1 := by have := HR5.out.m.gb; omega
        have z4 : w4.heap.size ≠ W.heap.size + 1 := by have := HR4.out.size; omega
        clear x9
        refine start_ (n := 8) (S := fun w' => w'.cell? ⟨w3.heap.size, 1, none⟩ = some (.int .i64 r.1.pc) ∧ w'.cell? ⟨w3.heap.size, 2, none⟩ = some (.slice E1 r.1.st.length e1_) ∧ w'.cell? ⟨w3.heap.size, 3, none⟩ = some (.slice E2 r.1.ca.length e2_) ∧ w'.cell? ⟨w4.heap.size, 0, none⟩ = some (.int .i64 r.2.2.1) ∧ w'.cell? ⟨w4.heap.size, 1, none⟩ = some (.int .i64 r.2.2.2) ∧ w'.cell? ⟨w4.heap.size, 2, none⟩ = some (.int .i64 ((k : Int) + 1))) (ds := [6]) #[false, false, false, false, false, false, false, false] (by kernel_rfl) rfl rfl ⟨a1, a2, a3, q0, q1, q2⟩ (fun hHeld => ?_)
        refine pure_ (i := 0) (N := some 63) (v := ?_) (a' := ?_) #[true, false, false, false, false, false, false, false] rfl rfl (by kernel_rfl) (fun _ _ _ h => h) (Or.inl ⟨by rfl, ?_⟩) ?_ ?_
        rotate_left
        · intro w'
          go_simp
          with_reducible rfl
        rotate_left
        · simp only [Act.put, List.setIfInBounds_toArray, List.set_cons_zero, List.set_cons_succ, i64_w, i32_w]
          rfl
        refine pure_ (i := 1) (N := some 64) (v := ?_) (a' := ?_) #[true, true, false, false, false, false, false, false] rfl rfl (by kernel_rfl) (fun _ _ _ h => h) (Or.inl ⟨by rfl, ?_⟩) ?_ ?_
        rotate_left
        · intro w'
          go_simp
          with_reducible rfl
        rotate_left
        · simp only [Act.put, List.setIfInBounds_toArray, List.set_cons_zero, List.set_cons_succ, i64_w, i32_w]
          rfl
        refine pure_ (i := 2) (N := some 65) (v := ?_) (a' := ?_) #[true, true, true, false, false, false, false, false] rfl rfl (by kernel_rfl) (fun _ _ _ h => h) (Or.inl ⟨by rfl, ?_⟩) ?_ ?_
        rotate_left
        · intro w'
          go_simp
          with_reducible rfl
        rotate_left
        · simp only [Act.put, List.setIfInBounds_toArray, List.set_cons_zero, List.set_cons_succ, i64_w, i32_w]
          rfl
        refine take_ (i := 3) (N := some 66) (v := ?_) (a' := ?_) #[true, true, true, true, false, false, false, false] rfl rfl (by kernel_rfl) (fun _ _ _ h => h) (Or.inl ⟨by rfl, ?_⟩) hHeld ?_ ?_
        rotate_left
        · rintro w' ⟨s0, s1, s2, s3, s4, s5⟩
          go_simp
          with_reducible rfl
        rotate_left
        · simp only [Act.put, List.setIfInBounds_toArray, List.set_cons_zero, List.set_cons_succ, i64_w, i32_w]
          rfl
        refine take_ (i := 4) (N := some 67) (v := ?_) (a' := ?_) #[true, true, true, true, true, false, false, false] rfl rfl (by kernel_rfl) (fun _ _ _ h => h) (Or.inl ⟨by rfl, ?_⟩) hHeld ?_ ?_
        rotate_left
        · rintro w' ⟨s0, s1, s2, s3, s4, s5⟩
          go_simp
          with_reducible rfl
        rotate_left
        · simp only [Act.put, List.setIfInBounds_toArray, List.set_cons_zero, List.set_cons_succ, i64_w, i32_w]
          rfl
        refine one_ (i := 5) (N := none) #[true, true, true, true, true, true, false, false] rfl rfl (by kernel_rfl) (by decide) (fun K hK => ?_)
        refine skip_ (w1 := ?_) (by rfl) rfl ?_ ?_
        rotate_left
        · go_simp
          rfl
        refine hK.out _ _ ⟨(by rw [drew_cell, cell_far (by exact z3), cell_far (by exact z3), cell_far (by exact z3)]; exact a1), (by rw [drew_cell, cell_far (by exact z3), cell_far (by exact z3), cell_far (by exact z3)]; exact a2), (by rw [drew_cell, cell_far (by exact z3), cell_far (by exact z3), cell_far (by exact z3)]; exact a3), (by rw [drew_cell, cell_far (by exact z4), cell_far (by exact z4), cell_far (by exact z4)]; exact q0), (by rw [drew_cell, cell_far (by exact z4), cell_far (by exact z4), cell_far (by exact z4)]; exact q1), (by rw [drew_cell, cell_far (by exact z4), cell_far (by exact z4), cell_far (by exact z4)]; exact q2)⟩ (fun hHeld => ?_)
        clear hK K
        refine last_ (i := 6) (N := none) #[true, true, true, true, true, true, true, false] rfl rfl (by kernel_rfl) (by decide) (fun K hK => ?_)
        refine skip_ (w1 := ?_) (by rfl) rfl ?_ ?_
        rotate_left
        · go_simp
          rfl
        refine hK.out _ _ ?_
        clear hK K
        refine pure_ (i := 7) (N := some 10) (v := ?_) (a' := ?_) #[true, true, true, true, true, true, true, true] rfl rfl (by kernel_rfl) (fun _ _ _ h => h) (Or.inl ⟨by rfl, ?_⟩) ?_ ?_
        rotate_left
        · intro w'
          go_simp
          with_reducible rfl
        rotate_left
        · simp only [Act.put, List.setIfInBounds_toArray, List.set_cons_zero, List.set_cons_succ, i64_w, i32_w]
          rfl
        refine done_ (by kernel_rfl) ?_

        go_wp2
        have HR6 := Aside0.mk (HR5.out.step (below_drew (Below.refl _ _)))
        obtain ⟨o8, o9⟩ := HR6.out.out (.int .i64 r.1.pc) (.slice E1 r.1.st.length e1_) (.slice E2 r.1.ca.length e2_) (.int .i64 r.2.2.1) (.int .i64 r.2.2.2) (.int .i64 ((k : Int) + 1))
        unfold outW at o8 o9
        simp only [World.setCell_drew] at o8 o9
        have e0 := blk_cell o8 0
        have e1 := blk_cell o8 1
        have e2 := blk_cell o8 2
        have e3 := blk_cell o9 0
        have e4 := blk_cell o9 1
        have e5 := blk_cell o9 2
        simp only [List.getElem?_toArray, List.getElem?_cons_zero, List.getElem?_cons_succ] at e0 e1 e2 e3 e4 e5
        rw [HRN.out, HU2.out]
        have hd := HR6.out.done HLT.out (.int .i64 r.1.pc) (.slice E1 r.1.st.length e1_) (.slice E2 r.1.ca.length e2_) (.int .i64 r.2.2.1) (.int .i64 r.2.2.2) (.int .i64 ((k : Int) + 1)) r.2.2.1 r.2.2.2 ((k : Int) + 1) 0 rfl
        unfold outW at hd
        simp only [World.setCell_drew] at hd
        exact bodyPost_ret (v := .tuple #[.agg #[.int .i64 r.1.pc, .slice E1 r.1.st.length e1_, .slice E2 r.1.ca.length e2_], .agg #[.int .i64 r.2.2.1, .int .i64 r.2.2.2, .int .i64 ((k : Int) + 1)], .int .i64 0]) (by simp [results, Try.results13, go_sem, e0, e1, e2, e3, e4, e5]) rfl hd
    · obtain rfl : k = F := by have := HKF.out; omega
      have tk : decide ((k : Int) + 1 ≤ (k : Int)) = false := decide_eq_false (by omega)
      obtain ⟨a1, a2, a3, a4, a5, a6, a7, a8, a9, b0, b1, b2, b3, b4, b5⟩ := hre.cells
      have HU := Aside0.mk (show runP memK code (k - k) k s' m' = (s', m', 1, 0, (k : Int)) from by rw [Nat.sub_self]; rfl)
      clear hre hmay hlt
      go_wp2
      obtain ⟨o8, o9⟩ := HR'.out.out (.int .i64 s'.pc) (.slice D1 s'.st.length d3) (.slice D2 s'.ca.length d4) (.int .i64 1) (.int .i64 0) (.int .i64 (k : Int))
      unfold outW at o8 o9
      have e0 := blk_cell o8 0
      have e1 := blk_cell o8 1
      have e2 := blk_cell o8 2
      have e3 := blk_cell o9 0
      have e4 := blk_cell o9 1
      have e5 := blk_cell o9 2
      simp only [List.getElem?_toArray, List.getElem?_cons_zero, List.getElem?_cons_succ] at e0 e1 e2 e3 e4 e5
      rw [HRN.out, HU.out]
      have hd := HR'.out.done HLT.out (.int .i64 s'.pc) (.slice D1 s'.st.length d3) (.slice D2 s'.ca.length d4) (.int .i64 1) (.int .i64 0) (.int .i64 (k : Int)) 1 0 (k : Int) 0 rfl
      unfold outW at hd
      exact bodyPost_ret (v := .tuple #[.agg #[.int .i64 s'.pc, .slice D1 s'.st.length d3, .slice D2 s'.ca.length d4], .agg #[.int .i64 1, .int .i64 0, .int .i64 (k : Int)], .int .i64 0]) (by simp [results, Try.results13, go_sem, e0, e1, e2, e3, e4, e5]) rfl hd
end Go.Proofs.Ytbdamgopggeikaa.VmW
