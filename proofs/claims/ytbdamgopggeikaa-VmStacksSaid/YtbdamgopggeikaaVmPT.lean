/- vm.Push, vm.Take. -/
import Derived.Test.YtbdamgopggeikaaVmSem
namespace Go.Proofs.Ytbdamgopggeikaa.VmW
open Go.RowKit Go.Proofs.YtbdamgopggeikaaW.PrintWords Go.Proofs.YtbdamgopggeikaaW.PrintMore Go.Proofs.YtbdamgopggeikaaW.PrintLast Go.Proofs.Ytbdamgopggeikaa.Pvm
set_option linter.unusedVariables false
set_option linter.unusedSimpArgs false
def pushP (s : St) (n : Int) : St × Int := if 64 ≤ s.st.length then (⟨0, [], []⟩, 2) else (⟨s.pc, s.st ++ [n], s.ca⟩, 0)
def takeP (s : St) (n : Int) : St × List Int × Int :=
  if n < 0 then (⟨0, [], []⟩, [], 1) else if (s.st.length : Int) < n then (⟨0, [], []⟩, [], 3) else (⟨s.pc, s.st.take (s.st.length - n.toNat), s.ca⟩, s.st.drop (s.st.length - n.toNat), 0)
def PushPost (w : World) (r : St × Int) (e : Ending) (w' : World) : Prop := ∃ A1 c1 A2 c2, e = .returned (.tuple #[.agg #[.int .i64 r.1.pc, .slice A1 r.1.st.length c1, .slice A2 r.1.ca.length c2], .int .i64 r.2]) ∧ w'.ownsRow w.heap.size 3 1 (.slice A1 r.1.st.length c1) r.1.st.length (nums .i64 r.1.st) ∧ w'.ownsRow w.heap.size 3 1 (.slice A2 r.1.ca.length c2) r.1.ca.length (nums .i64 r.1.ca) ∧ Below w.heap.size w w'
def TakePost (w : World) (r : St × List Int × Int) (e : Ending) (w' : World) : Prop := ∃ A1 c1 A2 c2 A3 c3, e = .returned (.tuple #[.agg #[.int .i64 r.1.pc, .slice A1 r.1.st.length c1, .slice A2 r.1.ca.length c2], .slice A3 r.2.1.length c3, .int .i64 r.2.2]) ∧ w'.ownsRow w.heap.size 3 1 (.slice A1 r.1.st.length c1) r.1.st.length (nums .i64 r.1.st) ∧ w'.ownsRow w.heap.size 3 1 (.slice A2 r.1.ca.length c2) r.1.ca.length (nums .i64 r.1.ca) ∧ w'.ownsRow w.heap.size 3 1 (.slice A3 r.2.1.length c3) r.2.1.length (nums .i64 r.2.1) ∧ Below w.heap.size w w'
/-- The two boxes at the beginning: what came in, what is returned. -/
structure P0 (W W' : World) (bx : Array Value) : Prop where
  below : Below W.heap.size W W'
  b0 : W'.heap[W.heap.size]? = some (.cells bx 25 (0, 0))
  b1 : W'.heap[W.heap.size + 1]? = some (.cells #[.int .i64 0, .slice none 0 0, .slice none 0 0] 25 (0, 0))
theorem P0.mk_ (W : World) (bx : Array Value) : P0 W ((W.alloc (.cells bx 25)).alloc (.cells #[.int .i64 0, .slice none 0 0, .slice none 0 0] 25)) bx := by
  have e1 : (W.alloc (.cells bx 25)).heap.size = W.heap.size + 1 := by simp
  refine ⟨below_alloc (below_alloc (Below.refl _ _) _) _, ?_, ?_⟩
  · exact (heap_alloc_old _ _ (by simp)).trans (heap_alloc_new W _)
  · rw [← e1]; exact heap_alloc_new _ _
theorem P0.step {W W' W2 : World} {bx : Array Value} (h : P0 W W' bx) (hb : Below W'.heap.size W' W2) : P0 W W2 bx :=
  ⟨below_step h.below hb, (hb.block _ (blk_lt h.b0)).trans h.b0, (hb.block _ (blk_lt h.b1)).trans h.b1⟩
def out3 (W W' : World) (a b c : Value) : World := ((W'.setCell ⟨W.heap.size + 1, 0, none⟩ a).setCell ⟨W.heap.size + 1, 1, none⟩ b).setCell ⟨W.heap.size + 1, 2, none⟩ c
theorem P0.out {W W' : World} {bx : Array Value} (h : P0 W W' bx) (a b c : Value) : (out3 W W' a b c).heap[W.heap.size + 1]? = some (.cells #[a, b, c] 25 (0, 0)) ∧ Mv W' (out3 W W' a b c) (fun k => k = W.heap.size + 1) ∧ Below W.heap.size W (out3 W W' a b c) :=
  ⟨blk_set (blk_set (blk_set h.b1 0 a) 1 b) 2 c, (((Mv.refl W' (fun k => k = W.heap.size + 1)).set (p := ⟨W.heap.size + 1, 0, none⟩) (.inl rfl) a).set (p := ⟨W.heap.size + 1, 1, none⟩) (.inl rfl) b).set (p := ⟨W.heap.size + 1, 2, none⟩) (.inl rfl) c,
   ((h.below.setCell (p := ⟨W.heap.size + 1, 0, none⟩) (by show W.heap.size ≤ W.heap.size + 1; omega) a).setCell (p := ⟨W.heap.size + 1, 1, none⟩) (by show W.heap.size ≤ W.heap.size + 1; omega) b).setCell (p := ⟨W.heap.size + 1, 2, none⟩) (by show W.heap.size ≤ W.heap.size + 1; omega) c⟩
theorem P0.set {W W' : World} {bx : Array Value} (h : P0 W W' bx) {g : Nat} (hg : W.heap.size + 1 < g) (i : Nat) (u : Value) : P0 W (W'.setCell ⟨g, i, none⟩ u) bx :=
  ⟨h.below.setCell (p := ⟨g, i, none⟩) (by show W.heap.size ≤ g; omega) u, (Below.heap_setCell W' ⟨g, i, none⟩ u _ (by show W.heap.size ≠ g; omega)).trans h.b0, (Below.heap_setCell W' ⟨g, i, none⟩ u _ (by show W.heap.size + 1 ≠ g; omega)).trans h.b1⟩
theorem P0.grown {W W' W2 : World} {bx : Array Value} {row : Option Nat} (h : P0 W W' bx) (hg : W'.grownBy W2 row) (hr : ∀ k, row = some k → W.heap.size + 2 ≤ k) : P0 W W2 bx := by
  have hz : W.heap.size + 1 < W'.heap.size := blk_lt h.b1
  refine ⟨(Mv.of_grown hg (S := fun k => row = some k) (fun k e => .inl e)) |> fun m => ⟨m.os.trans h.below.os, m.tape.trans h.below.tape, m.output.trans h.below.output, Nat.le_trans h.below.size m.size, fun k hk => (m.block k (by omega) (fun e => by have := hr k e; omega)).trans (h.below.block k hk)⟩, ?_, ?_⟩
  · exact blk_grown h.b0 hg (fun e => by have := hr _ e.symm; omega)
  · exact blk_grown h.b1 hg (fun e => by have := hr _ e.symm; omega)
set_option maxHeartbeats 8000000 in
set_option maxRecDepth 100000 in
theorem push_full (W : World) (s : St) (A1 A2 : Option Addr) (c1 c2 : Nat) (n : Int) (hf : 64 ≤ s.st.length) :
    Calls Try.prog 19 #[.agg #[.int .i64 s.pc, .slice A1 s.st.length c1, .slice A2 s.ca.length c2], .int .i64 n] W (PushPost W (pushP s n)) := by
  have hu := Try.underlying25
  have h0 := P0.mk_ W #[.int .i64 s.pc, .slice A1 s.st.length c1, .slice A2 s.ca.length c2]
  have H0 := Aside0.mk h0
  have t0 : decide ((s.st.length : Int) ≥ 64) = true := decide_eq_true (by omega)
  have t1 : decide (64 ≤ (s.st.length : Int)) = true := decide_eq_true (by omega)
  have HP := Aside0.mk (show pushP s n = (⟨0, [], []⟩, 2) from by unfold pushP; exact if_pos hf)
  clear h0 hf
  go_enter Try.func19, Try.ntmps19
  go_wp2
  rw [HP.out]
  refine bodyPost_ret (v := .tuple #[.agg #[.int .i64 0, .slice none 0 0, .slice none 0 0], .int .i64 2]) (by simp [results, Try.results19, go_sem]) rfl ⟨none, 0, none, 0, rfl, ?_, ?_, ?_⟩
  · exact own_nil _ _ _ _
  · exact own_nil _ _ _ _
  · exact H0.out.below
set_option maxHeartbeats 8000000 in
set_option maxRecDepth 100000 in
theorem push_ok (W : World) (s : St) (A1 A2 : Option Addr) (c1 c2 : Nat) (h1 : Kd.C (Kd.int .i64) W A1 s.st.length s.st) (h2 : Kd.C (Kd.int .i64) W A2 s.ca.length s.ca) (hb1 : s.st.length * 8 ≤ 140737488355328) (hb2 : s.ca.length * 8 ≤ 140737488355328) (n : Int) (hf : ¬ 64 ≤ s.st.length) :
    Calls Try.prog 19 #[.agg #[.int .i64 s.pc, .slice A1 s.st.length c1, .slice A2 s.ca.length c2], .int .i64 n] W (PushPost W (pushP s n)) := by
  have hu := Try.underlying25
  have h0 := P0.mk_ W #[.int .i64 s.pc, .slice A1 s.st.length c1, .slice A2 s.ca.length c2]
  have H0 := Aside0.mk h0
  have t0 : decide ((s.st.length : Int) ≥ 64) = false := decide_eq_false (by omega)
  have t1 : decide (64 ≤ (s.st.length : Int)) = false := decide_eq_false (by omega)
  have HP := Aside0.mk (show pushP s n = (⟨s.pc, s.st ++ [n], s.ca⟩, 0) from by unfold pushP; exact if_neg hf)
  have HCP := Aside0.mk (copied_calls _ s A1 A2 c1 c2 (Kd.C_below h1 h0.below) (Kd.C_below h2 h0.below) hb1 hb2)
  have HF := Aside0.mk hf
  clear h0 h1 h2 hb1 hb2 hf
  go_enter Try.func19, Try.ntmps19
  go_upto_region 4 with (go_at_call 26; (with_reducible refine HCP.out.mono ?_); rintro e w1 ⟨B1, d1, B2, d2, rfl, ho1, ho2, hne, hb⟩; have HO1 := Aside0.mk ho1; have HO2 := Aside0.mk ho2; have HB := Aside0.mk hb; have HN := Aside0.mk hne; clear ho1 ho2 hb hne)
  have hz0 : W.heap.size + 2 = ((W.alloc (.cells #[.int .i64 s.pc, .slice A1 s.st.length c1, .slice A2 s.ca.length c2] 25)).alloc (.cells #[.int .i64 0, .slice none 0 0, .slice none 0 0] 25)).heap.size := by simp
  have hx := heap_alloc_new w1 (.cells #[.int .i64 s.pc, .slice B1 s.st.length d1, .slice B2 s.ca.length d2] 25)
  have h2 := (H0.out.step HB.out).step (below_alloc (Below.refl _ _) (.cells #[.int .i64 s.pc, .slice B1 s.st.length d1, .slice B2 s.ca.length d2] 25))
  have ho1 := own_alloc HO1.out (.cells #[.int .i64 s.pc, .slice B1 s.st.length d1, .slice B2 s.ca.length d2] 25)
  have ho2 := own_alloc HO2.out (.cells #[.int .i64 s.pc, .slice B1 s.st.length d1, .slice B2 s.ca.length d2] 25)
  have hw1 : W.heap.size + 2 ≤ w1.heap.size := by have := HB.out.size; omega
  rw [← hz0] at ho1 ho2
  generalize w1.alloc (.cells #[.int .i64 s.pc, .slice B1 s.st.length d1, .slice B2 s.ca.length d2] 25) = w2 at *
  have x0 := blk_cell hx 0
  have x1 := blk_cell hx 1
  have x2 := blk_cell hx 2
  have HX := Aside0.mk hx
  have H2 := Aside0.mk h2
  have HQ1 := Aside0.mk ho1
  have HQ2 := Aside0.mk ho2
  have HW := Aside0.mk hw1
  have hz2 : w1.heap.size ≠ W.heap.size + 1 := by omega
  clear hx h2 ho1 ho2 HO1 HO2 HB HCP H0 hz0 hw1
  go_wp2_with (at_builtin; refine print_append (w0 := W) W.heap.size rfl _ _ 23 3 (.int .i64 0) 8 rfl Try.underlying23 infoI rfl (by decide) (.slice B1 s.st.length d1) (nums .i64 s.st) (.int .i64 n) rfl rfl rfl (by rw [show (nums .i64 s.st).length = s.st.length from by simp [nums]]; exact own_less HQ1.out (by omega)) H2.out.below H2.out.below.size (by have := HF.out; have e : (nums .i64 s.st).length = s.st.length := (by simp [nums]); omega) ?_; intro v1 w3 ho_ hb hg hat; have ho : w3.ownsRow W.heap.size 3 1 v1 (s.st ++ [n]).length (nums .i64 (s.st ++ [n])) := (show nums .i64 s.st ++ [Value.int .i64 n] = nums .i64 (s.st ++ [n]) from by simp [nums]) ▸ (show (nums .i64 s.st ++ [Value.int .i64 n]).length = (s.st ++ [n]).length from by simp [nums]) ▸ ho_; have h3 := H2.out.grown hg (fun k e => own_base HQ1.out k e); have hx3 := blk_grown HX.out hg (own_ne HQ1.out HX.out (by decide)); have x0' := blk_cell hx3 0; have x1' := blk_cell hx3 1; have x2' := blk_cell hx3 2; have f1' := blk_frozen hx3 1; have y0 := blk_cell h3.b1 0; have y1 := blk_cell h3.b1 1; have y2 := blk_cell h3.b1 2; have g0 := blk_frozen h3.b1 0; have g1 := blk_frozen h3.b1 1; have g2 := blk_frozen h3.b1 2; obtain ⟨A5, c5, rfl⟩ := own_slice ho; rw [show (s.st ++ [n]).length = s.st.length + 1 from by simp] at ho ⊢; have HO3 := Aside0.mk ho; have HG := Aside0.mk hg; have H3 := Aside0.mk h3; have HX3 := Aside0.mk hx3; clear ho ho_ hb hg hat h3 hx3 x0 x1 x2)
  have h3 := H3.out.set (g := w1.heap.size) (by have := HW.out; omega) 1 (.slice A5 (s.st.length + 1) c5)
  have q1 := own_setCell (p := ⟨w1.heap.size, 1, none⟩) HO3.out (own_ne HO3.out HX3.out (by decide)) (.slice A5 (s.st.length + 1) c5)
  have hQ : w3.ownsRow (W.heap.size + 2) 3 1 (.slice B2 s.ca.length d2) s.ca.length (nums .i64 s.ca) := (Mv.of_grown HG.out (S := fun k => (Value.slice B1 s.st.length d1).ownBlock = some k) (fun k e => .inl e)).own HQ2.out (fun k hk hS => HN.out k hS hk)
  have q2 := own_setCell (p := ⟨w1.heap.size, 1, none⟩) hQ (own_ne hQ HX3.out (by decide)) (.slice A5 (s.st.length + 1) c5)
  obtain ⟨o1, om, ob⟩ := h3.out (.int .i64 s.pc) (.slice A5 (s.st.length + 1) c5) (.slice B2 s.ca.length d2)
  have q3 := om.own q1 (fun k hk e => own_ne q1 h3.b1 (by decide) (by rw [hk, e]))
  have q4 := om.own q2 (fun k hk e => own_ne q2 h3.b1 (by decide) (by rw [hk, e]))
  unfold out3 at o1 ob q3 q4
  have e0 := blk_cell o1 0
  have e1 := blk_cell o1 1
  have e2 := blk_cell o1 2
  simp only [List.getElem?_toArray, List.getElem?_cons_zero, List.getElem?_cons_succ] at e0 e1 e2
  rw [HP.out]
  exact bodyPost_ret (v := .tuple #[.agg #[.int .i64 s.pc, .slice A5 (s.st.length + 1) c5, .slice B2 s.ca.length d2], .int .i64 0]) (by simp [results, Try.results19, go_sem, e0, e1, e2]) rfl
    ⟨A5, c5, B2, d2, by simp, by simpa using q3, own_less q4 (by omega), ob⟩
theorem push_calls (W : World) (s : St) (A1 A2 : Option Addr) (c1 c2 : Nat) (h1 : Kd.C (Kd.int .i64) W A1 s.st.length s.st) (h2 : Kd.C (Kd.int .i64) W A2 s.ca.length s.ca) (hb1 : s.st.length * 8 ≤ 140737488355328) (hb2 : s.ca.length * 8 ≤ 140737488355328) (n : Int) :
    Calls Try.prog 19 #[.agg #[.int .i64 s.pc, .slice A1 s.st.length c1, .slice A2 s.ca.length c2], .int .i64 n] W (PushPost W (pushP s n)) := by
  by_cases hf : 64 ≤ s.st.length
  · exact push_full W s A1 A2 c1 c2 n hf
  · exact push_ok W s A1 A2 c1 c2 h1 h2 hb1 hb2 n hf
end Go.Proofs.Ytbdamgopggeikaa.VmW
