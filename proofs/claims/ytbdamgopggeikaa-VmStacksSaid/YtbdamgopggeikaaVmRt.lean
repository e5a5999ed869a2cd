/- The reference's Copy, Push and Take, told as the machine's. -/
import Derived.Test.YtbdamgopggeikaaVmTk
namespace Go.Proofs.Ytbdamgopggeikaa.VmW
open Go.RowKit Go.Proofs.YtbdamgopggeikaaW.PrintWords Go.Proofs.YtbdamgopggeikaaW.PrintMore Go.Proofs.YtbdamgopggeikaaW.PrintLast Go.Proofs.Ytbdamgopggeikaa.Pvm
set_option linter.unusedVariables false
set_option linter.unusedSimpArgs false
theorem rcopy_calls (W : World) (s : St) (A1 A2 : Option Addr) (c1 c2 : Nat) (h1 : Kd.C (Kd.int .i64) W A1 s.st.length s.st) (h2 : Kd.C (Kd.int .i64) W A2 s.ca.length s.ca) (hc1 : s.st.length ≤ c1) (hc2 : s.ca.length ≤ c2) (hb1 : s.st.length * 8 < 140737488355328) (hb2 : s.ca.length * 8 < 140737488355328) :
    Calls Try.prog 12 #[.agg #[.int .i64 s.pc, .slice A1 s.st.length c1, .slice A2 s.ca.length c2]] W (CopyPost W s) := by
  have hf : cloisterref14_Copy.f s.pc s.st s.ca = some (s.pc, s.st, s.ca) := by
    unfold cloisterref14_Copy.f
    rw [if_pos (by simp; omega), if_pos (by simp; omega)]; rfl
  refine (cloisterref14_Copy.calls s.pc A1 c1 s.st A2 c2 s.ca s.pc s.st s.ca W h1 hc1 h2 hc2 hf).mono ?_
  rintro e w' ⟨v1, v2, he, hr1, hr2, hb⟩
  have o1 := Kd.own_of_R (enc := Value.int .i64) (h1 := fun _ => rfl) hr1
  have o2 := Kd.own_of_R (enc := Value.int .i64) (h1 := fun _ => rfl) hr2
  obtain ⟨B1, d1, rfl⟩ := own_slice o1
  obtain ⟨B2, d2, rfl⟩ := own_slice o2
  exact ⟨B1, d1, B2, d2, he, o1, o2, fun k hk e => hr1.1 k hk e.symm, hb⟩
theorem rpush_calls (W : World) (s : St) (A1 A2 : Option Addr) (c1 c2 : Nat) (h1 : Kd.C (Kd.int .i64) W A1 s.st.length s.st) (h2 : Kd.C (Kd.int .i64) W A2 s.ca.length s.ca) (hc1 : s.st.length ≤ c1) (hc2 : s.ca.length ≤ c2) (hb1 : s.st.length * 8 < 140737488355328) (hb2 : s.ca.length * 8 < 140737488355328) (n : Int) :
    Calls Try.prog 20 #[.agg #[.int .i64 s.pc, .slice A1 s.st.length c1, .slice A2 s.ca.length c2], .int .i64 n] W (PushPost W (pushP s n)) := by
  have hf : cloisterref14_Push.f s.pc s.st s.ca n = some ((pushP s n).1.pc, (pushP s n).1.st, (pushP s n).1.ca, (pushP s n).2) := by
    unfold cloisterref14_Push.f cloisterref14_Copy.f pushP
    by_cases h : 64 ≤ s.st.length
    · rw [if_pos (by omega), if_pos h]
    · rw [if_neg (by omega), if_neg h, if_pos (by simp; omega), if_pos (by simp; omega)]
      simp only [Option.bind_some, List.nil_append]
      rw [if_pos (by omega)]
  refine (cloisterref14_Push.calls s.pc A1 c1 s.st A2 c2 s.ca n _ _ _ _ W h1 hc1 h2 hc2 hf).mono ?_
  rintro e w' ⟨v1, v2, he, hr1, hr2, hb⟩
  have o1 := Kd.own_of_R (enc := Value.int .i64) (h1 := fun _ => rfl) hr1
  have o2 := Kd.own_of_R (enc := Value.int .i64) (h1 := fun _ => rfl) hr2
  obtain ⟨B1, d1, rfl⟩ := own_slice o1
  obtain ⟨B2, d2, rfl⟩ := own_slice o2
  exact ⟨B1, d1, B2, d2, he, o1, o2, hb⟩
set_option maxHeartbeats 8000000 in
set_option maxRecDepth 100000 in
theorem rtake_no (W : World) (s : St) (A1 A2 : Option Addr) (c1 c2 : Nat) (n err : Int) (hf : (n < 0 ∧ err = 1) ∨ (0 ≤ n ∧ (s.st.length : Int) < n ∧ n ≤ 9223372036854775807 ∧ err = 3)) :
    Calls Try.prog 22 #[.agg #[.int .i64 s.pc, .slice A1 s.st.length c1, .slice A2 s.ca.length c2], .int .i64 n] W (TakePost W (nilSt, [], err)) := by
  have hu := Try.underlying25
  have h0 := P0.mk_ W #[.int .i64 s.pc, .slice A1 s.st.length c1, .slice A2 s.ca.length c2]
  have H0 := Aside0.mk h0
  clear h0
  rcases hf with ⟨hf, rfl⟩ | ⟨hf, hf2, hf3, rfl⟩
  · have t0 : decide (n < 0) = true := decide_eq_true hf
    clear hf
    go_enter Try.func22, Try.ntmps22
    go_wp2
    exact bodyPost_ret (v := .tuple #[.agg #[.int .i64 0, .slice none 0 0, .slice none 0 0], .slice none 0 0, .int .i64 1]) (by simp [results, Try.results22, go_sem]) rfl ⟨none, 0, none, 0, none, 0, rfl, own_nil _ _ _ _, own_nil _ _ _ _, own_nil _ _ _ _, H0.out.below⟩
  · have t0 : decide (n < 0) = false := decide_eq_false (by omega)
    have t1 : decide ((s.st.length : Int) < n) = true := decide_eq_true (by omega)
    clear hf hf2 hf3
    go_enter Try.func22, Try.ntmps22
    go_wp2
    exact bodyPost_ret (v := .tuple #[.agg #[.int .i64 0, .slice none 0 0, .slice none 0 0], .slice none 0 0, .int .i64 3]) (by simp [results, Try.results22, go_sem]) rfl ⟨none, 0, none, 0, none, 0, rfl, own_nil _ _ _ _, own_nil _ _ _ _, own_nil _ _ _ _, H0.out.below⟩
set_option maxHeartbeats 8000000 in
set_option maxRecDepth 100000 in
theorem rtake_ok (W : World) (s : St) (A1 A2 : Option Addr) (c1 c2 : Nat) (h1 : Kd.C (Kd.int .i64) W A1 s.st.length s.st) (h2 : Kd.C (Kd.int .i64) W A2 s.ca.length s.ca) (hb1 : s.st.length * 8 < 140737488355328) (hb2 : s.ca.length * 8 < 140737488355328) (hcc : s.st.length ≤ c1 ∧ s.ca.length ≤ c2) (n : Int) (K : Nat) (hK : K ≤ s.st.length) (hn : n = ((s.st.length : Nat) : Int) - (K : Int)) :
    Calls Try.prog 22 #[.agg #[.int .i64 s.pc, .slice A1 s.st.length c1, .slice A2 s.ca.length c2], .int .i64 n] W (TakePost W (⟨s.pc, s.st.take K, s.ca⟩, s.st.drop K, 0)) := by
  have hu := Try.underlying25
  have h0 := P0.mk_ W #[.int .i64 s.pc, .slice A1 s.st.length c1, .slice A2 s.ca.length c2]
  have H0 := Aside0.mk h0
  have t0 : decide (n < 0) = false := decide_eq_false (by omega)
  have ew : wrap64 (K : Int) = (K : Int) := by unfold wrap64; omega
  have ew2 : (s.st.length : Int) - n = (K : Int) := by omega
  have t1 : decide ((s.st.length : Int) < n) = false := decide_eq_false (by omega)
  have HCP := Aside0.mk (rcopy_calls _ s A1 A2 c1 c2 (Kd.C_below h1 h0.below) (Kd.C_below h2 h0.below) hcc.1 hcc.2 hb1 hb2)
  have HF := Aside0.mk (And.intro hK hb1)
  clear h0 h1 h2 hb1 hb2 hn hK hcc
  go_enter Try.func22, Try.ntmps22
  go_upto_region 6 with (go_at_call 12; (with_reducible refine HCP.out.mono ?_); rintro e w1 ⟨B1, d1, B2, d2, rfl, ho1, ho2, hne, hb⟩; have HO1 := Aside0.mk ho1; have HO2 := Aside0.mk ho2; have HB := Aside0.mk hb; have HN := Aside0.mk hne; clear ho1 ho2 hb hne)
  have hz0 : W.heap.size + 2 = ((W.alloc (.cells #[.int .i64 s.pc, .slice A1 s.st.length c1, .slice A2 s.ca.length c2] 25)).alloc (.cells #[.int .i64 0, .slice none 0 0, .slice none 0 0] 25)).heap.size := by simp
  have hx := heap_alloc_new w1 (.cells #[.int .i64 s.pc, .slice B1 s.st.length d1, .slice B2 s.ca.length d2] 25)
  have h2 := (H0.out.step HB.out).step (below_alloc (Below.refl _ _) (.cells #[.int .i64 s.pc, .slice B1 s.st.length d1, .slice B2 s.ca.length d2] 25))
  have ho1 := own_alloc HO1.out (.cells #[.int .i64 s.pc, .slice B1 s.st.length d1, .slice B2 s.ca.length d2] 25)
  have ho2 := own_alloc HO2.out (.cells #[.int .i64 s.pc, .slice B1 s.st.length d1, .slice B2 s.ca.length d2] 25)
  have hw1 : W.heap.size + 2 ≤ w1.heap.size := by have := HB.out.size; omega
  rw [← hz0] at ho1 ho2
  generalize w1.alloc (.cells #[.int .i64 s.pc, .slice B1 s.st.length d1, .slice B2 s.ca.length d2] 25) = w2 at *
  have p0 := blk_cell h2.b0 0
  have p1 := blk_cell h2.b0 1
  have p2 := blk_cell h2.b0 2
  have x0 := blk_cell hx 0
  have x1 := blk_cell hx 1
  have x2 := blk_cell hx 2
  have hcap := (own_C ho1).2
  have hKl := HF.out.1
  obtain ⟨i0, hi, hzz⟩ := Option.map_eq_some_iff.1 infoI
  simp only [Prod.mk.injEq] at hzz
  obtain ⟨A9, hcut, hrd, hc9⟩ := print_cut_int (P := Try.prog) (k := .i64) 23 3 Try.underlying23 hi hzz.2.1 B1 d1 s.st (K : Int) (Int.natCast_nonneg K) (by omega) hcap
  rw [show (K : Int).toNat = K from rfl] at hcut hrd hc9
  have hk0 : (0 : Int) ≤ (K : Int) := Int.natCast_nonneg K
  have hk1 : (K : Int) ≤ (d1 : Int) := by omega
  have hk2 : K ≤ d1 := by omega
  have HX := Aside0.mk hx
  have H2 := Aside0.mk h2
  have HQ1 := Aside0.mk ho1
  have HQ2 := Aside0.mk ho2
  have HW := Aside0.mk hw1
  have hz2 : w1.heap.size ≠ W.heap.size + 1 := by omega
  have hdl : (s.st.length - K) * 8 ≤ 140737488355328 := by have := HF.out.2; omega
  have hrr := hrd w2 (own_reads' ho1)
  rw [List.length_drop] at hrr
  have HDL := Aside0.mk (And.intro hrr hdl)
  have hm : (s.st.take K).length = K := by rw [List.length_take]; have := HF.out.1; omega
  have HM := Aside0.mk hm
  clear hx h2 ho1 ho2 HO1 HO2 HB HCP H0 hz0 hw1 hcap hKl hi hzz hrd hc9 hdl hrr hm
  go_wp2_with (at_builtin; refine print_append_row (w0 := W) W.heap.size rfl _ _ 23 3 .i64 8 rfl Try.underlying23 infoI (by decide) (.slice none 0 0) [] (s.st.drop K) A9 (s.st.length - K) (d1 - K) rfl rfl (own_nil _ _ _ _) HDL.out.1 H2.out.below H2.out.below.size (by have := HDL.out.2; simp; omega) ?_; intro v9 w3 ho hb hg hat; obtain ⟨C1, c3, rfl⟩ := own_slice ho; rw [List.nil_append, List.length_drop] at ho; rw [List.nil_append, List.length_drop]; have hbb : Below w2.heap.size w2 w3 := (Mv.of_grown hg (S := fun _ => False) (fun k e => by simp [Value.ownBlock] at e)).below (fun k e => e.elim); clear hb; have hb := hbb; clear hbb hg; have h3 := H2.out.step hb; have hx3 := (hb.block _ (blk_lt HX.out)).trans HX.out; have x0' := blk_cell hx3 0; have x1' := blk_cell hx3 1; have x2' := blk_cell hx3 2; have f1' := blk_frozen hx3 1; have y0 := blk_cell h3.b1 0; have y1 := blk_cell h3.b1 1; have y2 := blk_cell h3.b1 2; have g0 := blk_frozen h3.b1 0; have g1 := blk_frozen h3.b1 1; have g2 := blk_frozen h3.b1 2; have HO3 := Aside0.mk ho; have HG := Aside0.mk hb; have H3 := Aside0.mk h3; have HX3 := Aside0.mk hx3; clear ho hb h3 hx3 x0 x1 x2 hat)
  have h3 := H3.out.set (g := w1.heap.size) (by have := HW.out; omega) 1 (.slice B1 K d1)
  have r1 := own_take (pw_own_below HQ1.out HG.out) HF.out.1
  have r2 := pw_own_below HQ2.out HG.out
  have r3 := HO3.out
  have q1 := own_setCell (p := ⟨w1.heap.size, 1, none⟩) r1 (own_ne r1 HX3.out (by decide)) (.slice B1 K d1)
  have q2 := own_setCell (p := ⟨w1.heap.size, 1, none⟩) r2 (own_ne r2 HX3.out (by decide)) (.slice B1 K d1)
  have q3 := own_setCell (p := ⟨w1.heap.size, 1, none⟩) r3 (own_ne r3 HX3.out (by decide)) (.slice B1 K d1)
  obtain ⟨o1, om, ob⟩ := h3.out (.int .i64 s.pc) (.slice B1 K d1) (.slice B2 s.ca.length d2)
  have q4 := om.own q1 (fun k hk e => own_ne q1 h3.b1 (by decide) (by rw [hk, e]))
  have q5 := om.own q2 (fun k hk e => own_ne q2 h3.b1 (by decide) (by rw [hk, e]))
  have q6 := om.own q3 (fun k hk e => own_ne q3 h3.b1 (by decide) (by rw [hk, e]))
  unfold out3 at o1 ob q4 q5 q6
  have e0 := blk_cell o1 0
  have e1 := blk_cell o1 1
  have e2 := blk_cell o1 2
  simp only [List.getElem?_toArray, List.getElem?_cons_zero, List.getElem?_cons_succ] at e0 e1 e2
  have hm := HM.out
  have en : (nums .i64 s.st).take (K * 1) = nums .i64 (s.st.take K) := by rw [Nat.mul_one]; unfold nums; rw [List.map_take]
  rw [en] at q4
  have q4 := own_less q4 (show W.heap.size ≤ W.heap.size + 2 by omega)
  have q5 := own_less q5 (show W.heap.size ≤ W.heap.size + 2 by omega)
  refine bodyPost_ret (v := .tuple #[.agg #[.int .i64 s.pc, .slice B1 K d1, .slice B2 s.ca.length d2], .slice C1 (s.st.length - K) c3, .int .i64 0]) (by simp [results, Try.results22, go_sem, e0, e1, e2]) rfl ?_
  unfold TakePost
  dsimp only
  rw [hm, List.length_drop]
  exact ⟨B1, d1, B2, d2, C1, c3, rfl, q4, q5, q6, ob⟩
theorem rtake_calls (W : World) (s : St) (A1 A2 : Option Addr) (c1 c2 : Nat) (h1 : Kd.C (Kd.int .i64) W A1 s.st.length s.st) (h2 : Kd.C (Kd.int .i64) W A2 s.ca.length s.ca) (hcc : s.st.length ≤ c1 ∧ s.ca.length ≤ c2) (hb1 : s.st.length * 8 < 140737488355328) (hb2 : s.ca.length * 8 < 140737488355328) (n : Int) (hn : n ≤ 9223372036854775807) :
    Calls Try.prog 22 #[.agg #[.int .i64 s.pc, .slice A1 s.st.length c1, .slice A2 s.ca.length c2], .int .i64 n] W (TakePost W (takeP' s n)) := by
  unfold takeP'
  by_cases h0 : n < 0
  · rw [if_pos h0]; exact rtake_no W s A1 A2 c1 c2 n 1 (.inl ⟨h0, rfl⟩)
  rw [if_neg h0]
  by_cases h3 : (s.st.length : Int) < n
  · rw [if_pos h3]; exact rtake_no W s A1 A2 c1 c2 n 3 (.inr ⟨by omega, h3, hn, rfl⟩)
  rw [if_neg h3]
  exact rtake_ok W s A1 A2 c1 c2 h1 h2 hb1 hb2 hcc n _ (by omega) (by omega)
end Go.Proofs.Ytbdamgopggeikaa.VmW
