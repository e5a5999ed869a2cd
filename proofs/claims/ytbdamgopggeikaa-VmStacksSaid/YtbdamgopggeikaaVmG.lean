/- vm.may, slices.Clone at ints, vm.copied. -/
import Derived.Test.YtbdamgopggeikaaVmE
namespace Go.Proofs.Ytbdamgopggeikaa.VmW
open Go.RowKit Go.Proofs.YtbdamgopggeikaaW.PrintWords Go.Proofs.YtbdamgopggeikaaW.PrintMore Go.Proofs.YtbdamgopggeikaaW.PrintLast Go.Proofs.Ytbdamgopggeikaa.Pvm
set_option linter.unusedVariables false
set_option linter.unusedSimpArgs false
instance (n : Int) (l : List Int) : Decidable (okB n l) := inferInstanceAs (Decidable (∀ x ∈ l, _))
theorem mayb {s : St} {n : Nat} {b : Bool} (h : b = decide (mayP s n)) {W W' : World} {e : Ending} (he : e = .returned (.bool b)) (hb : Below W.heap.size W W') : BPost W (decide (mayP s n)) e W' := ⟨h ▸ he, hb⟩
set_option maxHeartbeats 4000000 in
set_option maxRecDepth 100000 in
theorem may_calls (W : World) (s : St) (n : Nat) (A1 A2 : Option Addr) (c1 c2 : Nat) (h2 : Kd.C (Kd.int .i64) W A2 s.ca.length s.ca) :
    Calls Try.prog 25 #[.agg #[.int .i64 s.pc, .slice A1 s.st.length c1, .slice A2 s.ca.length c2], .int .i64 (n : Int)] W (BPost W (decide (mayP s n))) := by
  have hu := Try.underlying25
  have hb1 := below_alloc (below_alloc (Below.refl W.heap.size W) (.cells #[.int .i64 s.pc, .slice A1 s.st.length c1, .slice A2 s.ca.length c2] 25)) (.cells #[.int .i64 (n : Int)] 3)
  have hx := heap_alloc_new (W.alloc (.cells #[.int .i64 s.pc, .slice A1 s.st.length c1, .slice A2 s.ca.length c2] 25)) (.cells #[.int .i64 (n : Int)] 3)
  have hq := blk_cell hx 0
  have HK := Aside0.mk (fun x : Int => odd_calls _ (W.alloc (.cells #[.int .i64 s.pc, .slice A1 s.st.length c1, .slice A2 s.ca.length c2] 25)).heap.size (n : Int) x hq)
  have hC := Kd.C_below h2 hb1
  have HC := Aside0.mk hC
  have HB := Aside0.mk hb1
  have HQ := Aside0.mk hq
  have hz : (W.alloc (.cells #[.int .i64 s.pc, .slice A1 s.st.length c1, .slice A2 s.ca.length c2] 25)).heap.size = W.heap.size + 1 := by simp
  rw [hz] at HK HQ
  clear h2 hb1 hx hq hC hz
  by_cases g0 : s.pc < 0 ∨ (n : Int) < s.pc
  · have HK0 := Aside0.mk ((HK.out s.pc).mono fun (e : Ending) (w' : World) ⟨he, hw⟩ => (⟨by rw [he, decide_eq_true g0], hw⟩ : e = Ending.returned (.bool true) ∧ _ = w'))
    have HP := Aside0.mk (show false = decide (mayP s n) from by symm; apply decide_eq_false; rintro ⟨a, b, _⟩; omega)
    clear g0 HK
    go_enter Try.func25, Try.ntmps25
    go_wp2_with (go_at_call 34; (with_reducible refine HK0.out.mono ?_); rintro e w1 ⟨rfl, rfl⟩)
    go_ret
    exact mayb HP.out rfl HB.out
  have HK0 := Aside0.mk ((HK.out s.pc).mono fun (e : Ending) (w' : World) ⟨he, hw⟩ => (⟨by rw [he, decide_eq_false g0], hw⟩ : e = Ending.returned (.bool false) ∧ _ = w'))
  by_cases g1 : s.st.length ≤ 64
  case neg =>
    have t1 : decide ((s.st.length : Int) ≤ 64) = false := decide_eq_false (by omega)
    have HP := Aside0.mk (show false = decide (mayP s n) from by symm; apply decide_eq_false; rintro ⟨a, b, c, _⟩; omega)
    clear g0 g1 HK
    go_enter Try.func25, Try.ntmps25
    go_wp2_with (go_at_call 34; (with_reducible refine HK0.out.mono ?_); rintro e w1 ⟨rfl, rfl⟩)
    go_ret
    exact mayb HP.out rfl HB.out
  have t1 : decide ((s.st.length : Int) ≤ 64) = true := decide_eq_true (by omega)
  by_cases g2 : s.ca.length ≤ 32
  case neg =>
    have t2 : decide ((s.ca.length : Int) ≤ 32) = false := decide_eq_false (by omega)
    have HP := Aside0.mk (show false = decide (mayP s n) from by symm; apply decide_eq_false; rintro ⟨a, b, c, d, _⟩; omega)
    clear g0 g1 g2 HK
    go_enter Try.func25, Try.ntmps25
    go_wp2_with (go_at_call 34; (with_reducible refine HK0.out.mono ?_); rintro e w1 ⟨rfl, rfl⟩)
    go_ret
    exact mayb HP.out rfl HB.out
  have t2 : decide ((s.ca.length : Int) ≤ 32) = true := decide_eq_true (by omega)
  have HKC := Aside0.mk (cont_calls _ (W.heap.size + 1) (n : Int) A2 c2 s.ca HQ.out HC.out g2 (decide (¬ okB n s.ca)) (by simp))
  have HP := Aside0.mk (show (!decide (¬ okB n s.ca)) = decide (mayP s n) from by rw [Bool.eq_iff_iff]; simp; exact ⟨fun h => ⟨by omega, by omega, g1, g2, h⟩, fun h => h.2.2.2.2⟩)
  clear g0 g1 g2 HK
  generalize decide (¬ okB n s.ca) = b at *
  go_enter Try.func25, Try.ntmps25
  go_wp2_with (first
    | (go_at_call 34; (with_reducible refine HK0.out.mono ?_); rintro e w1 ⟨rfl, rfl⟩)
    | (go_at_call 35; (with_reducible refine HKC.out.mono ?_); rintro e w1 ⟨rfl, rfl⟩))
  go_ret
  exact mayb HP.out rfl HB.out
def ClPost (w : World) (l : List Int) (e : Ending) (w' : World) : Prop := ∃ A c, e = .returned (.slice A l.length c) ∧ w'.ownsRow w.heap.size 3 1 (.slice A l.length c) l.length (nums .i64 l) ∧ Below w.heap.size w w'
theorem clone_calls (A : Option Addr) (c : Nat) (l : List Int) (w : World) (hC : Kd.C (Kd.int .i64) w A l.length l) (hb : l.length * 8 ≤ 140737488355328) :
    Calls Try.prog 30 #[.slice A l.length c] w (ClPost w l) := by
  by_cases hp : 0 < l.length
  · obtain ⟨b, o, rfl, hbw, hcells⟩ := ints_at hC hp
    have hcl := Try.slices_Clone_int b o l.length c l w (Nat.le_refl _) hb hcells
    rw [List.take_length] at hcl
    refine hcl.mono ?_
    rintro e w' ⟨v, he, ho, _, hb⟩
    obtain ⟨A, c, rfl⟩ := own_slice ho
    exact ⟨A, c, he, ho, hb⟩
  · obtain rfl : l = [] := List.eq_nil_of_length_eq_zero (by omega)
    cases A with
    | none => exact (Try.slices_Clone_int_nil 0 c w).mono fun e w' ⟨he, hw⟩ => ⟨none, 0, he, by rw [hw]; exact own_nil _ _ _ _, by rw [hw]; exact Below.refl _ _⟩
    | some a =>
      refine (Try.slices_Clone_int_zero a c w).mono ?_
      rintro e w' ⟨v, he, ho, _, hb⟩
      obtain ⟨A, c, rfl⟩ := own_slice ho
      exact ⟨A, c, he, ho, hb⟩
def CopyPost (w : World) (s : St) (e : Ending) (w' : World) : Prop := ∃ A1 c1 A2 c2, e = .returned (.agg #[.int .i64 s.pc, .slice A1 s.st.length c1, .slice A2 s.ca.length c2]) ∧ w'.ownsRow w.heap.size 3 1 (.slice A1 s.st.length c1) s.st.length (nums .i64 s.st) ∧ w'.ownsRow w.heap.size 3 1 (.slice A2 s.ca.length c2) s.ca.length (nums .i64 s.ca) ∧ NeRow (.slice A1 s.st.length c1) (.slice A2 s.ca.length c2) ∧ Below w.heap.size w w'
set_option maxHeartbeats 4000000 in
set_option maxRecDepth 100000 in
theorem copied_calls (W : World) (s : St) (A1 A2 : Option Addr) (c1 c2 : Nat) (h1 : Kd.C (Kd.int .i64) W A1 s.st.length s.st) (h2 : Kd.C (Kd.int .i64) W A2 s.ca.length s.ca) (hb1 : s.st.length * 8 ≤ 140737488355328) (hb2 : s.ca.length * 8 ≤ 140737488355328) :
    Calls Try.prog 26 #[.agg #[.int .i64 s.pc, .slice A1 s.st.length c1, .slice A2 s.ca.length c2]] W (CopyPost W s) := by
  have hu := Try.underlying25
  generalize hW : ((W.alloc (.cells #[.int .i64 s.pc, .slice A1 s.st.length c1, .slice A2 s.ca.length c2] 25)).alloc (.cells #[.int .i64 0, .slice none 0 0, .slice none 0 0] 25)) = W1 at *
  have hb := below_alloc (below_alloc (Below.refl W.heap.size W) (.cells #[.int .i64 s.pc, .slice A1 s.st.length c1, .slice A2 s.ca.length c2] 25)) (.cells #[.int .i64 0, .slice none 0 0, .slice none 0 0] 25)
  rw [hW] at hb
  have x0 : W1.heap[W.heap.size]? = some (.cells #[.int .i64 s.pc, .slice A1 s.st.length c1, .slice A2 s.ca.length c2] 25 (0, 0)) := by
    rw [← hW]
    exact (heap_alloc_old _ _ (by simp)).trans (heap_alloc_new W _)
  have x1 : W1.heap[W.heap.size + 1]? = some (.cells #[.int .i64 0, .slice none 0 0, .slice none 0 0] 25 (0, 0)) := by
    rw [← hW]
    have := heap_alloc_new (W.alloc (.cells #[.int .i64 s.pc, .slice A1 s.st.length c1, .slice A2 s.ca.length c2] 25)) (.cells #[.int .i64 0, .slice none 0 0, .slice none 0 0] 25)
    simpa using this
  have r0 := blk_cell x0 0
  have r1 := blk_cell x0 1
  have r2 := blk_cell x0 2
  have g1 := Kd.C_below h1 hb
  have g2 := Kd.C_below h2 hb
  have HX := Aside0.mk (And.intro x0 x1)
  have HB := Aside0.mk hb
  have H1 := Aside0.mk g1
  have H2 := Aside0.mk g2
  have HL := Aside0.mk (And.intro hb1 hb2)
  clear h1 h2 hb1 hb2 hb g1 g2 x0 x1
  have hW' := Aside0.mk hW
  clear hW
  go_enter Try.func26, Try.ntmps26
  go_wp2
  rw [hW'.out]
  refine start_ (n := 10) (S := fun w' => w'.cell? ⟨W.heap.size, 0, none⟩ = some (.int .i64 s.pc) ∧ w'.cell? ⟨W.heap.size, 1, none⟩ = some (.slice A1 s.st.length c1) ∧ w'.cell? ⟨W.heap.size, 2, none⟩ = some (.slice A2 s.ca.length c2)) (ds := [9]) #[false, false, false, false, false, false, false, false, false, false] (by kernel_rfl) rfl rfl ⟨r0, r1, r2⟩ (fun hHeld => ?_)
  refine pure_ (i := 0) (N := some 3) (v := ?_) (a' := ?_) #[true, false, false, false, false, false, false, false, false, false] rfl rfl (by kernel_rfl) (fun _ _ _ h => h) (Or.inl ⟨by rfl, ?_⟩) ?_ ?_
  rotate_left
  · intro w'
    go_simp
    with_reducible rfl
  rotate_left
  · simp only [Act.put, List.setIfInBounds_toArray, List.set_cons_zero, List.set_cons_succ, i64_w, i32_w]
    rfl
  refine pure_ (i := 2) (N := some 5) (v := ?_) (a' := ?_) #[true, false, true, false, false, false, false, false, false, false] rfl rfl (by kernel_rfl) (fun _ _ _ h => h) (Or.inl ⟨by rfl, ?_⟩) ?_ ?_
  rotate_left
  · intro w'
    go_simp
    with_reducible rfl
  rotate_left
  · simp only [Act.put, List.setIfInBounds_toArray, List.set_cons_zero, List.set_cons_succ, i64_w, i32_w]
    rfl
  refine pure_ (i := 5) (N := some 8) (v := ?_) (a' := ?_) #[true, false, true, false, false, true, false, false, false, false] rfl rfl (by kernel_rfl) (fun _ _ _ h => h) (Or.inl ⟨by rfl, ?_⟩) ?_ ?_
  rotate_left
  · intro w'
    go_simp
    with_reducible rfl
  rotate_left
  · simp only [Act.put, List.setIfInBounds_toArray, List.set_cons_zero, List.set_cons_succ, i64_w, i32_w]
    rfl
  refine take_ (i := 1) (N := some 4) (v := ?_) (a' := ?_) #[true, true, true, false, false, true, false, false, false, false] rfl rfl (by kernel_rfl) (fun _ _ _ h => h) (Or.inl ⟨by rfl, ?_⟩) hHeld ?_ ?_
  rotate_left
  · rintro w' ⟨s0, s1, s2⟩
    go_simp
    with_reducible rfl
  rotate_left
  · simp only [Act.put, List.setIfInBounds_toArray, List.set_cons_zero, List.set_cons_succ, i64_w, i32_w]
    rfl
  refine take_ (i := 3) (N := some 6) (v := ?_) (a' := ?_) #[true, true, true, true, false, true, false, false, false, false] rfl rfl (by kernel_rfl) (fun _ _ _ h => h) (Or.inl ⟨by rfl, ?_⟩) hHeld ?_ ?_
  rotate_left
  · rintro w' ⟨s0, s1, s2⟩
    go_simp
    with_reducible rfl
  rotate_left
  · simp only [Act.put, List.setIfInBounds_toArray, List.set_cons_zero, List.set_cons_succ, i64_w, i32_w]
    rfl
  refine take_ (i := 6) (N := some 9) (v := ?_) (a' := ?_) #[true, true, true, true, false, true, true, false, false, false] rfl rfl (by kernel_rfl) (fun _ _ _ h => h) (Or.inl ⟨by rfl, ?_⟩) hHeld ?_ ?_
  rotate_left
  · rintro w' ⟨s0, s1, s2⟩
    go_simp
    with_reducible rfl
  rotate_left
  · simp only [Act.put, List.setIfInBounds_toArray, List.set_cons_zero, List.set_cons_succ, i64_w, i32_w]
    rfl
  refine one_ (i := 4) (N := some 7) #[true, true, true, true, true, true, true, false, false, false] rfl rfl (by kernel_rfl) (by decide) (fun K hK => ?_)
  refine goes_ Try.func30 (by kernel_rfl) rfl #[.slice A1 s.st.length c1] (by rfl) rfl rfl (by simp only [List.map_toArray, List.map_cons, List.map_nil]; rfl) ?_
  with_reducible refine (clone_calls A1 c1 s.st W1.drew (Kd.C_drew H1.out) HL.out.1).mono ?_
  rintro e w3 ⟨B1, d1, rfl, ho1, hb3⟩
  refine ⟨_, rfl, ?_⟩
  have HO1 := Aside0.mk ho1
  have HB3 := Aside0.mk (below_step (below_drew (Below.refl _ _)) hb3)
  clear ho1 hb3
  refine hK.out _ _ ⟨(HB3.out.cell (p := ⟨W.heap.size, 0, none⟩) (blk_lt HX.out.1)).trans r0, (HB3.out.cell (p := ⟨W.heap.size, 1, none⟩) (blk_lt HX.out.1)).trans r1, (HB3.out.cell (p := ⟨W.heap.size, 2, none⟩) (blk_lt HX.out.1)).trans r2⟩ (fun hHeld => ?_)
  clear hK K
  refine norm_ (a' := ?_) ?_ ?_
  rotate_left
  · show Act.put _ (some 7) _ = _
    simp only [Act.put, List.setIfInBounds_toArray, List.set_cons_zero, List.set_cons_succ, i64_w, i32_w]
    rfl
  refine one_ (i := 7) (N := some 10) #[true, true, true, true, true, true, true, true, false, false] rfl rfl (by kernel_rfl) (by decide) (fun K hK => ?_)
  refine goes_ Try.func30 (by kernel_rfl) rfl #[.slice A2 s.ca.length c2] (by rfl) rfl rfl (by simp only [List.map_toArray, List.map_cons, List.map_nil]; rfl) ?_
  with_reducible refine (clone_calls A2 c2 s.ca w3 (Kd.C_below H2.out HB3.out) HL.out.2).mono ?_
  rintro e w4 ⟨B2, d2, rfl, ho2, hb4⟩
  refine ⟨_, rfl, ?_⟩
  have HO2 := Aside0.mk ho2
  have HB34 := Aside0.mk hb4
  have HB4 := Aside0.mk (below_step HB3.out hb4)
  have y1 : w4.heap[W.heap.size + 1]? = some (.cells #[.int .i64 0, .slice none 0 0, .slice none 0 0] 25 (0, 0)) := (HB4.out.block _ (blk_lt HX.out.2)).trans HX.out.2
  have z0 := blk_cell y1 0
  have z1 := blk_cell y1 1
  have z2 := blk_cell y1 2
  have f0 := blk_frozen y1 0
  have f1 := blk_frozen y1 1
  have f2 := blk_frozen y1 2
  have HY := Aside0.mk y1
  clear ho2 hb4 y1
  refine hK.out _ _ ⟨(HB4.out.cell (p := ⟨W.heap.size, 0, none⟩) (blk_lt HX.out.1)).trans r0, (HB4.out.cell (p := ⟨W.heap.size, 1, none⟩) (blk_lt HX.out.1)).trans r1, (HB4.out.cell (p := ⟨W.heap.size, 2, none⟩) (blk_lt HX.out.1)).trans r2⟩ (fun hHeld => ?_)
  clear hK K
  refine norm_ (a' := ?_) ?_ ?_
  rotate_left
  · show Act.put _ (some 10) _ = _
    simp only [Act.put, List.setIfInBounds_toArray, List.set_cons_zero, List.set_cons_succ, i64_w, i32_w]
    rfl
  refine pure_ (i := 8) (N := some 11) (v := ?_) (a' := ?_) #[true, true, true, true, true, true, true, true, true, false] rfl rfl (by kernel_rfl) (fun _ _ _ h => h) (Or.inl ⟨by rfl, ?_⟩) ?_ ?_
  rotate_left
  · intro w'
    go_simp
    with_reducible rfl
  rotate_left
  · simp only [Act.put, List.setIfInBounds_toArray, List.set_cons_zero, List.set_cons_succ, i64_w, i32_w]
    rfl
  refine last_ (i := 9) (N := none) #[true, true, true, true, true, true, true, true, true, true] rfl rfl (by kernel_rfl) (by decide) (fun K hK => ?_)
  refine skip_ (w1 := ?_) (by rfl) rfl ?_ ?_
  rotate_left
  · go_simp
    rfl
  refine hK.out _ _ ?_
  clear hK K
  refine done_ (by kernel_rfl) ?_

  go_wp2
  have hz := blk_set (blk_set (blk_set HY.out 0 (.int .i64 s.pc)) 1 (.slice B1 s.st.length d1)) 2 (.slice B2 s.ca.length d2)
  have e0 := (blk_cell hz 0).trans (show _ = some (Value.int .i64 s.pc) from rfl)
  have e1 := (blk_cell hz 1).trans (show _ = some (Value.slice B1 s.st.length d1) from rfl)
  have e2 := (blk_cell hz 2).trans (show _ = some (Value.slice B2 s.ca.length d2) from rfl)
  have ho1 := pw_own_below HO1.out HB34.out
  have ho2 := HO2.out
  have hs1 : W.heap.size ≤ W1.drew.heap.size := HB.out.size
  have hs2 : W.heap.size ≤ w3.heap.size := Nat.le_trans HB.out.size HB3.out.size
  have hb4 : Below W.heap.size W w4 := below_step HB.out HB4.out
  have n1 := own_ne ho1 HY.out (by decide)
  have n2 := own_ne ho2 HY.out (by decide)
  exact bodyPost_ret (v := .agg #[.int .i64 s.pc, .slice B1 s.st.length d1, .slice B2 s.ca.length d2]) (by simp [results, Try.results26, go_sem, e0, e1, e2]) rfl
    ⟨B1, d1, B2, d2, rfl, own_less (own_setCell (own_setCell (own_setCell ho1 n1 _) n1 _) n1 _) hs1, own_less (own_setCell (own_setCell (own_setCell ho2 n2 _) n2 _) n2 _) hs2, ne_symm (ne_below ho2 HO1.out), ((hb4.setCell (p := ⟨W.heap.size + 1, 0, none⟩) (by show W.heap.size ≤ W.heap.size + 1; omega) _).setCell (p := ⟨W.heap.size + 1, 1, none⟩) (by show W.heap.size ≤ W.heap.size + 1; omega) _).setCell (p := ⟨W.heap.size + 1, 2, none⟩) (by show W.heap.size ≤ W.heap.size + 1; omega) _⟩
end Go.Proofs.Ytbdamgopggeikaa.VmW
