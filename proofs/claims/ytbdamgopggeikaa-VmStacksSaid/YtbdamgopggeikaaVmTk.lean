/- vm.Take. -/
import Derived.Test.YtbdamgopggeikaaVmPT
namespace Go.Proofs.Ytbdamgopggeikaa.VmW
open Go.RowKit Go.Proofs.YtbdamgopggeikaaW.PrintWords Go.Proofs.YtbdamgopggeikaaW.PrintMore Go.Proofs.YtbdamgopggeikaaW.PrintLast Go.Proofs.Ytbdamgopggeikaa.Pvm
set_option linter.unusedVariables false
set_option linter.unusedSimpArgs false
def nilSt : St := ⟨0, [], []⟩
set_option maxHeartbeats 8000000 in
set_option maxRecDepth 100000 in
theorem take_no (W : World) (s : St) (A1 A2 : Option Addr) (c1 c2 : Nat) (n err : Int) (hf : (n < 0 ∧ err = 1) ∨ (0 ≤ n ∧ (s.st.length : Int) < n ∧ n ≤ 9223372036854775807 ∧ err = 3)) :
    Calls Try.prog 21 #[.agg #[.int .i64 s.pc, .slice A1 s.st.length c1, .slice A2 s.ca.length c2], .int .i64 n] W (TakePost W (nilSt, [], err)) := by
  have hu := Try.underlying25
  have h0 := P0.mk_ W #[.int .i64 s.pc, .slice A1 s.st.length c1, .slice A2 s.ca.length c2]
  have H0 := Aside0.mk h0
  clear h0
  rcases hf with ⟨hf, rfl⟩ | ⟨hf, hf2, hf3, rfl⟩
  · have t0 : decide (n < 0) = true := decide_eq_true hf
    generalize hw : wrap64 ((s.st.length : Int) - n) = kk
    clear hf
    go_enter Try.func21, Try.ntmps21
    go_wp2
    exact bodyPost_ret (v := .tuple #[.agg #[.int .i64 0, .slice none 0 0, .slice none 0 0], .slice none 0 0, .int .i64 1]) (by simp [results, Try.results21, go_sem]) rfl ⟨none, 0, none, 0, none, 0, rfl, own_nil _ _ _ _, own_nil _ _ _ _, own_nil _ _ _ _, H0.out.below⟩
  · have t0 : decide (n < 0) = false := decide_eq_false (by omega)
    have ew : wrap64 ((s.st.length : Int) - n) = (s.st.length : Int) - n := by unfold wrap64; omega
    have t1 : decide ((s.st.length : Int) - n < 0) = true := decide_eq_true (by omega)
    clear hf hf2 hf3
    go_enter Try.func21, Try.ntmps21
    go_wp2
    exact bodyPost_ret (v := .tuple #[.agg #[.int .i64 0, .slice none 0 0, .slice none 0 0], .slice none 0 0, .int .i64 3]) (by simp [results, Try.results21, go_sem]) rfl ⟨none, 0, none, 0, none, 0, rfl, own_nil _ _ _ _, own_nil _ _ _ _, own_nil _ _ _ _, H0.out.below⟩
set_option maxHeartbeats 8000000 in
set_option maxRecDepth 100000 in
theorem take_ok (W : World) (s : St) (A1 A2 : Option Addr) (c1 c2 : Nat) (h1 : Kd.C (Kd.int .i64) W A1 s.st.length s.st) (h2 : Kd.C (Kd.int .i64) W A2 s.ca.length s.ca) (hb1 : s.st.length * 8 ≤ 140737488355328) (hb2 : s.ca.length * 8 ≤ 140737488355328) (n : Int) (K : Nat) (hK : K ≤ s.st.length) (hn : n = ((s.st.length : Nat) : Int) - (K : Int)) :
    Calls Try.prog 21 #[.agg #[.int .i64 s.pc, .slice A1 s.st.length c1, .slice A2 s.ca.length c2], .int .i64 n] W (TakePost W (⟨s.pc, s.st.take K, s.ca⟩, s.st.drop K, 0)) := by
  have hu := Try.underlying25
  have h0 := P0.mk_ W #[.int .i64 s.pc, .slice A1 s.st.length c1, .slice A2 s.ca.length c2]
  have H0 := Aside0.mk h0
  have t0 : decide (n < 0) = false := decide_eq_false (by omega)
  have ew : wrap64 (K : Int) = (K : Int) := by unfold wrap64; omega
  have ew2 : (s.st.length : Int) - n = (K : Int) := by omega
  have t1 : decide ((K : Int) < 0) = false := decide_eq_false (by omega)
  have HCP := Aside0.mk (copied_calls _ s A1 A2 c1 c2 (Kd.C_below h1 h0.below) (Kd.C_below h2 h0.below) hb1 hb2)
  have HF := Aside0.mk (And.intro hK hb1)
  clear h0 h1 h2 hb1 hb2 hn hK
  go_enter Try.func21, Try.ntmps21
  go_upto_region 7 with (go_at_call 26; (with_reducible refine HCP.out.mono ?_); rintro e w1 ⟨B1, d1, B2, d2, rfl, ho1, ho2, hne, hb⟩; have HO1 := Aside0.mk ho1; have HO2 := Aside0.mk ho2; have HB := Aside0.mk hb; have HN := Aside0.mk hne; clear ho1 ho2 hb hne)
  have hz0 : W.heap.size + 2 = ((W.alloc (.cells #[.int .i64 s.pc, .slice A1 s.st.length c1, .slice A2 s.ca.length c2] 25)).alloc (.cells #[.int .i64 0, .slice none 0 0, .slice none 0 0] 25)).heap.size := by simp
  have hx := heap_alloc_new w1 (.cells #[.int .i64 s.pc, .slice B1 s.st.length d1, .slice B2 s.ca.length d2] 25)
  have h2 := (H0.out.step HB.out).step (below_alloc (Below.refl _ _) (.cells #[.int .i64 s.pc, .slice B1 s.st.length d1, .slice B2 s.ca.length d2] 25))
  have ho1 := own_alloc HO1.out (.cells #[.int .i64 s.pc, .slice B1 s.st.length d1, .slice B2 s.ca.length d2] 25)
  have ho2 := own_alloc HO2.out (.cells #[.int .i64 s.pc, .slice B1 s.st.length d1, .slice B2 s.ca.length d2] 25)
  have hw1 : W.heap.size + 2 ≤ w1.heap.size := by have := HB.out.size; omega
  rw [← hz0] at ho1 ho2
  generalize w1.alloc (.cells #[.int .i64 s.pc, .slice B1 s.st.length d1, .slice B2 s.ca.length d2] 25) = w2 at *
  have x0 := blk_cell hx 0
  have x1 := blk_cell hx 1
  have x2 := blk_cell hx 2
  have hcap := (own_C ho1).2
  have hKl := HF.out.1
  obtain ⟨i0, hi, hzz⟩ := Option.map_eq_some_iff.1 infoI
  simp only [Prod.mk.injEq] at hzz
  obtain ⟨A9, hcut, hrd, hc9⟩ := print_cut_int (P := Try.prog) (k := .i64) 23 3 Try.underlying23 hi hzz.2.1 B1 d1 s.st (K : Int) (Int.natCast_nonneg K) (by omega) hcap
  rw [show (K : Int).toNat = K from rfl] at hcut hrd hc9
  have hC9 : Kd.C (Kd.int .i64) w2 A9 (s.st.drop K).length (s.st.drop K) := Kd.C_of_reads (enc := Value.int .i64) (d := (0 : Int)) (h1 := fun _ => rfl) (hrd w2 (own_reads' ho1))
  have hk0 : (0 : Int) ≤ (K : Int) := Int.natCast_nonneg K
  have hk1 : (K : Int) ≤ (d1 : Int) := by omega
  have hk2 : K ≤ d1 := by omega
  have HX := Aside0.mk hx
  have H2 := Aside0.mk h2
  have HQ1 := Aside0.mk ho1
  have HQ2 := Aside0.mk ho2
  have HW := Aside0.mk hw1
  have hz2 : w1.heap.size ≠ W.heap.size + 1 := by omega
  have hdl : (s.st.drop K).length * 8 ≤ 140737488355328 := by have := HF.out.2; rw [List.length_drop]; omega
  have hcl := clone_calls A9 (d1 - K) (s.st.drop K) w2 hC9 hdl
  rw [List.length_drop] at hcl
  have HDL := Aside0.mk hcl
  have hm : (s.st.take K).length = K := by rw [List.length_take]; have := HF.out.1; omega
  have HM := Aside0.mk hm
  clear hx h2 ho1 ho2 HO1 HO2 HB HCP H0 hz0 hw1 hcap hKl hi hzz hrd hc9 hdl hcl hC9 hm
  go_wp2_with (go_at_call 30; (with_reducible refine HDL.out.mono ?_); rintro e w3 ⟨C1, c3, rfl, ho, hb⟩; rw [List.length_drop] at ho ⊢; have h3 := H2.out.step hb; have hx3 := (hb.block _ (blk_lt HX.out)).trans HX.out; have x0' := blk_cell hx3 0; have x1' := blk_cell hx3 1; have x2' := blk_cell hx3 2; have f1' := blk_frozen hx3 1; have y0 := blk_cell h3.b1 0; have y1 := blk_cell h3.b1 1; have y2 := blk_cell h3.b1 2; have g0 := blk_frozen h3.b1 0; have g1 := blk_frozen h3.b1 1; have g2 := blk_frozen h3.b1 2; have HO3 := Aside0.mk ho; have HG := Aside0.mk hb; have H3 := Aside0.mk h3; have HX3 := Aside0.mk hx3; clear ho hb h3 hx3 x0 x1 x2)
  have h3 := H3.out.set (g := w1.heap.size) (by have := HW.out; omega) 1 (.slice B1 K d1)
  have r1 := own_take (pw_own_below HQ1.out HG.out) HF.out.1
  have r2 := pw_own_below HQ2.out HG.out
  have r3 := own_less HO3.out H2.out.below.size
  have q1 := own_setCell (p := ⟨w1.heap.size, 1, none⟩) r1 (own_ne r1 HX3.out (by decide)) (.slice B1 K d1)
  have q2 := own_setCell (p := ⟨w1.heap.size, 1, none⟩) r2 (own_ne r2 HX3.out (by decide)) (.slice B1 K d1)
  have q3 := own_setCell (p := ⟨w1.heap.size, 1, none⟩) r3 (own_ne r3 HX3.out (by decide)) (.slice B1 K d1)
  obtain ⟨o1, om, ob⟩ := h3.out (.int .i64 s.pc) (.slice B1 K d1) (.slice B2 s.ca.length d2)
  have q4 := om.own q1 (fun k hk e => own_ne q1 h3.b1 (by decide) (by rw [hk, e]))
  have q5 := om.own q2 (fun k hk e => own_ne q2 h3.b1 (by decide) (by rw [hk, e]))
  have q6 := om.own q3 (fun k hk e => own_ne q3 h3.b1 (by decide) (by rw [hk, e]))
  unfold out3 at o1 ob q4 q5 q6
  have e0 := blk_cell o1 0
  have e1 := blk_cell o1 1
  have e2 := blk_cell o1 2
  simp only [List.getElem?_toArray, List.getElem?_cons_zero, List.getElem?_cons_succ] at e0 e1 e2
  have hm := HM.out
  have en : (nums .i64 s.st).take (K * 1) = nums .i64 (s.st.take K) := by rw [Nat.mul_one]; unfold nums; rw [List.map_take]
  rw [en] at q4
  have q4 := own_less q4 (show W.heap.size ≤ W.heap.size + 2 by omega)
  have q5 := own_less q5 (show W.heap.size ≤ W.heap.size + 2 by omega)
  refine bodyPost_ret (v := .tuple #[.agg #[.int .i64 s.pc, .slice B1 K d1, .slice B2 s.ca.length d2], .slice C1 (s.st.length - K) c3, .int .i64 0]) (by simp [results, Try.results21, go_sem, e0, e1, e2]) rfl ?_
  unfold TakePost
  dsimp only
  rw [hm, List.length_drop]
  exact ⟨B1, d1, B2, d2, C1, c3, rfl, q4, q5, q6, ob⟩
def takeP' (s : St) (n : Int) : St × List Int × Int := if n < 0 then (nilSt, [], 1) else if (s.st.length : Int) < n then (nilSt, [], 3) else (⟨s.pc, s.st.take (s.st.length - n.toNat), s.ca⟩, s.st.drop (s.st.length - n.toNat), 0)
theorem take_calls (W : World) (s : St) (A1 A2 : Option Addr) (c1 c2 : Nat) (h1 : Kd.C (Kd.int .i64) W A1 s.st.length s.st) (h2 : Kd.C (Kd.int .i64) W A2 s.ca.length s.ca) (hb1 : s.st.length * 8 ≤ 140737488355328) (hb2 : s.ca.length * 8 ≤ 140737488355328) (n : Int) (hn : n ≤ 9223372036854775807) :
    Calls Try.prog 21 #[.agg #[.int .i64 s.pc, .slice A1 s.st.length c1, .slice A2 s.ca.length c2], .int .i64 n] W (TakePost W (takeP' s n)) := by
  unfold takeP'
  by_cases h0 : n < 0
  · rw [if_pos h0]; exact take_no W s A1 A2 c1 c2 n 1 (.inl ⟨h0, rfl⟩)
  rw [if_neg h0]
  by_cases h3 : (s.st.length : Int) < n
  · rw [if_pos h3]; exact take_no W s A1 A2 c1 c2 n 3 (.inr ⟨by omega, h3, hn, rfl⟩)
  rw [if_neg h3]
  exact take_ok W s A1 A2 c1 c2 h1 h2 hb1 hb2 n _ (by omega) (by omega)
end Go.Proofs.Ytbdamgopggeikaa.VmW
