/- vm.Run: nothing is run for want of a memory, by a fuel or a state that may not be. -/
import Derived.Test.YtbdamgopggeikaaVmRun2
namespace Go.Proofs.Ytbdamgopggeikaa.VmW
open Go.RowKit Go.Proofs.YtbdamgopggeikaaW.PrintWords Go.Proofs.YtbdamgopggeikaaW.PrintMore Go.Proofs.YtbdamgopggeikaaW.PrintLast Go.Proofs.Ytbdamgopggeikaa.Pvm
set_option linter.unusedVariables false
set_option linter.unusedSimpArgs false
set_option maxHeartbeats 4000000 in
set_option maxRecDepth 100000 in
theorem run_arg (W : World) (Ac : Option Addr) (cc : Nat) (code : List In) (hC : Kd.C kIn W Ac code.length code) (hcap : code.length ≤ cc) (s : St) (A1 A2 : Option Addr) (c1 c2 : Nat) (h2 : Kd.C (Kd.int .i64) W A2 s.ca.length s.ca) (v : Value) (fuel : Int)
    (hc : chkP code = (0, 0)) (hv : v = .nilIface ∨ ∃ q, v = memI q ∧ (fuel < 0 ∨ 1048576 < fuel ∨ ¬ mayP s code.length)) :
    Calls Try.prog 13 #[.slice Ac code.length cc, stV s A1 c1 A2 c2, v, .int .i64 fuel] W (NonePost W 1) := by
  unfold stV
  have hu := Try.underlying25
  have h0 := R0.mk_ W #[.int .i64 s.pc, .slice A1 s.st.length c1, .slice A2 s.ca.length c2]
  have HK := Aside0.mk ((check_calls _ Ac cc code (Kd.C_below hC h0.below) hcap).mono (fun (e : Ending) (w' : World) (h : TwoPost _ (chkP code).1 (chkP code).2 e w') => (show TwoPost _ 0 0 e w' from by rw [hc] at h; exact h)))
  have H0 := Aside0.mk h0
  have HMY := Aside0.mk (fun (w : World) (hb : Below W.heap.size W w) => may_calls w s code.length A1 A2 c1 c2 (Kd.C_below h2 hb))
  have HC := Aside0.mk hc
  clear hC hcap h0 h2 hc
  rcases hv with rfl | ⟨q, rfl, hv⟩
  · go_enter Try.func13, Try.ntmps13
    go_wp2_with (go_at_call 24; (with_reducible refine HK.out.mono ?_); rintro e w1 ⟨rfl, hb⟩; have H1 := Aside0.mk (H0.out.step hb); clear hb; obtain ⟨a0, a1, a2, a3, a4, a5, a6, a7, a8, a9, b0, b1, b2, b3, b4⟩ := H1.out.cells)
    obtain ⟨o8, o9, ob⟩ := H1.out.out (.int .i64 0) (.slice none 0 0) (.slice none 0 0) (.int .i64 0) (.int .i64 0) (.int .i64 0)
    unfold outW at o8 o9 ob
    have e0 := blk_cell o8 0
    have e1 := blk_cell o8 1
    have e2 := blk_cell o8 2
    have e3 := blk_cell o9 0
    have e4 := blk_cell o9 1
    have e5 := blk_cell o9 2
    simp only [List.getElem?_toArray, List.getElem?_cons_zero, List.getElem?_cons_succ] at e0 e1 e2 e3 e4 e5
    exact bodyPost_ret (v := .tuple #[.agg #[.int .i64 0, .slice none 0 0, .slice none 0 0], .agg #[.int .i64 0, .int .i64 0, .int .i64 0], .int .i64 1]) (by simp [results, Try.results13, go_sem, e0, e1, e2, e3, e4, e5]) rfl ⟨rfl, ob⟩
  unfold memI
  by_cases g0 : fuel < 0
  · have t0 : decide (fuel < 0) = true := decide_eq_true g0
    clear hv g0
    go_enter Try.func13, Try.ntmps13
    go_wp2_with (go_at_call 24; (with_reducible refine HK.out.mono ?_); rintro e w1 ⟨rfl, hb⟩; have H1 := Aside0.mk (H0.out.step hb); clear hb; obtain ⟨a0, a1, a2, a3, a4, a5, a6, a7, a8, a9, b0, b1, b2, b3, b4⟩ := H1.out.cells)
    obtain ⟨o8, o9, ob⟩ := H1.out.out (.int .i64 0) (.slice none 0 0) (.slice none 0 0) (.int .i64 0) (.int .i64 0) (.int .i64 0)
    unfold outW at o8 o9 ob
    have e0 := blk_cell o8 0
    have e1 := blk_cell o8 1
    have e2 := blk_cell o8 2
    have e3 := blk_cell o9 0
    have e4 := blk_cell o9 1
    have e5 := blk_cell o9 2
    simp only [List.getElem?_toArray, List.getElem?_cons_zero, List.getElem?_cons_succ] at e0 e1 e2 e3 e4 e5
    exact bodyPost_ret (v := .tuple #[.agg #[.int .i64 0, .slice none 0 0, .slice none 0 0], .agg #[.int .i64 0, .int .i64 0, .int .i64 0], .int .i64 1]) (by simp [results, Try.results13, go_sem, e0, e1, e2, e3, e4, e5]) rfl ⟨rfl, ob⟩
  have t0 : decide (fuel < 0) = false := decide_eq_false g0
  by_cases g1 : 1048576 < fuel
  · have t1 : decide (fuel > 1048576) = true := decide_eq_true g1
    have t2 : decide (1048576 < fuel) = true := decide_eq_true g1
    clear hv g0 g1
    go_enter Try.func13, Try.ntmps13
    go_wp2_with (go_at_call 24; (with_reducible refine HK.out.mono ?_); rintro e w1 ⟨rfl, hb⟩; have H1 := Aside0.mk (H0.out.step hb); clear hb; obtain ⟨a0, a1, a2, a3, a4, a5, a6, a7, a8, a9, b0, b1, b2, b3, b4⟩ := H1.out.cells)
    obtain ⟨o8, o9, ob⟩ := H1.out.out (.int .i64 0) (.slice none 0 0) (.slice none 0 0) (.int .i64 0) (.int .i64 0) (.int .i64 0)
    unfold outW at o8 o9 ob
    have e0 := blk_cell o8 0
    have e1 := blk_cell o8 1
    have e2 := blk_cell o8 2
    have e3 := blk_cell o9 0
    have e4 := blk_cell o9 1
    have e5 := blk_cell o9 2
    simp only [List.getElem?_toArray, List.getElem?_cons_zero, List.getElem?_cons_succ] at e0 e1 e2 e3 e4 e5
    exact bodyPost_ret (v := .tuple #[.agg #[.int .i64 0, .slice none 0 0, .slice none 0 0], .agg #[.int .i64 0, .int .i64 0, .int .i64 0], .int .i64 1]) (by simp [results, Try.results13, go_sem, e0, e1, e2, e3, e4, e5]) rfl ⟨rfl, ob⟩
  have t1 : decide (fuel > 1048576) = false := decide_eq_false g1
  have t2 : decide (1048576 < fuel) = false := decide_eq_false g1
  have hm : ¬ mayP s code.length := (hv.resolve_left g0).resolve_left g1
  have HD := Aside0.mk (decide_eq_false hm)
  clear hv g0 g1 hm
  go_enter Try.func13, Try.ntmps13
  go_wp2_with (first
    | (go_at_call 24; (with_reducible refine HK.out.mono ?_); rintro e w1 ⟨rfl, hb⟩; have H1 := Aside0.mk (H0.out.step hb); clear hb; obtain ⟨a0, a1, a2, a3, a4, a5, a6, a7, a8, a9, b0, b1, b2, b3, b4⟩ := H1.out.cells)
    | (go_at_call 25; (with_reducible refine (HMY.out w1 H1.out.below).mono ?_); rintro e w2 ⟨he, hb⟩; rw [HD.out] at he; subst he; have H2 := Aside0.mk (H1.out.step hb); clear hb a0 a1 a2 a3 a4 a5 a6 a7 a8 a9 b0 b1 b2 b3 b4; obtain ⟨a0, a1, a2, a3, a4, a5, a6, a7, a8, a9, b0, b1, b2, b3, b4⟩ := H2.out.cells))
  obtain ⟨o8, o9, ob⟩ := H2.out.out (.int .i64 0) (.slice none 0 0) (.slice none 0 0) (.int .i64 0) (.int .i64 0) (.int .i64 0)
  unfold outW at o8 o9 ob
  have e0 := blk_cell o8 0
  have e1 := blk_cell o8 1
  have e2 := blk_cell o8 2
  have e3 := blk_cell o9 0
  have e4 := blk_cell o9 1
  have e5 := blk_cell o9 2
  simp only [List.getElem?_toArray, List.getElem?_cons_zero, List.getElem?_cons_succ] at e0 e1 e2 e3 e4 e5
  exact bodyPost_ret (v := .tuple #[.agg #[.int .i64 0, .slice none 0 0, .slice none 0 0], .agg #[.int .i64 0, .int .i64 0, .int .i64 0], .int .i64 1]) (by simp [results, Try.results13, go_sem, e0, e1, e2, e3, e4, e5]) rfl ⟨rfl, ob⟩
end Go.Proofs.Ytbdamgopggeikaa.VmW
