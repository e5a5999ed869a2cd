/- The law LabelOrder, walked by hand (printed by wip/mk/laborder.py). -/
import Derived.Test.YtdmgcbelnnggbaaGreatDoorLabE
namespace Go.Proofs.YtdmgcbelnnggbaaGreatDoor.LabW
open Go.RowKit Go.Sort Go.Lib Go.Proofs.YtdmgcbelnnggbaaGreatDoorW.PrintWords Go.Proofs.YtdmgcbelnnggbaaGreatDoorW.PrintMore Go.Proofs.YtdmgcbelnnggbaaGreatDoorW.PrintLast Go.Proofs.YtdmgcbelnnggbaaGreatDoor.LabF Go.Proofs.YtdmgcbelnnggbaaGreatDoor.SetF Go.Proofs.YtdmgcbelnnggbaaGreatDoor.Semlab
set_option linter.unusedVariables false
set_option linter.unusedSimpArgs false
/- plainly -/
theorem cats_nil : Cats [] := ⟨List.Pairwise.nil, fun c h => by cases h⟩
theorem flowB_iff {as_ ai bs bi : List Int} (ha : May as_ ai) (hb : May bs bi) : flowB as_ ai bs bi = true ↔ (∀ x ∈ as_, x ∈ bs) ∧ (∀ x ∈ bi, x ∈ ai) := by
  unfold flowB flowsL
  rw [if_neg (not_not_intro ⟨ha, hb⟩), if_neg (not_not_intro cats_nil)]
  have hw : Within (lacksL as_ ai bs bi) [] ↔ (∀ x ∈ as_, x ∈ bs) ∧ (∀ x ∈ bi, x ∈ ai) := by
    unfold Within
    constructor
    · intro h
      refine ⟨fun x hx => Classical.byContradiction fun hn => ?_, fun x hx => Classical.byContradiction fun hn => ?_⟩
      · cases h x (mem_lacks.2 (.inl ⟨hx, hn⟩))
      · cases h x (mem_lacks.2 (.inr ⟨hx, hn⟩))
    · rintro ⟨h1, h2⟩ x hx
      rcases mem_lacks.1 hx with h | h
      · exact absurd (h1 x h.1) h.2
      · exact absurd (h2 x h.1) h.2
  by_cases h : Within (lacksL as_ ai bs bi) []
  · rw [if_neg (not_not_intro h)]
    exact ⟨fun _ => hw.1 h, fun _ => rfl⟩
  · rw [if_pos h]
    exact ⟨fun e => absurd e (by decide), fun e => absurd (hw.2 e) h⟩
theorem flow_refl {s i : List Int} (h : May s i) : flowB s i s i = true := (flowB_iff h h).2 ⟨fun _ h => h, fun _ h => h⟩
theorem flow_trans {s i t j u k : List Int} (h1 : May s i) (h2 : May t j) (h3 : May u k) (a : flowB s i t j = true) (b : flowB t j u k = true) : flowB s i u k = true := by
  have a := (flowB_iff h1 h2).1 a
  have b := (flowB_iff h2 h3).1 b
  exact (flowB_iff h1 h3).2 ⟨fun x h => b.1 x (a.1 x h), fun x h => a.2 x (b.2 x h)⟩
theorem flow_both {s i t j : List Int} (h1 : May s i) (h2 : May t j) : (flowB s i t j && flowB t j s i) = decide (s = t ∧ i = j) := by
  rw [Bool.eq_iff_iff, Bool.and_eq_true, flowB_iff h1 h2, flowB_iff h2 h1, decide_eq_true_eq]
  constructor
  · rintro ⟨⟨a, b⟩, c, d⟩
    exact ⟨rises_ext h1.2.2.1.1 h2.2.2.1.1 fun x => ⟨a x, c x⟩, rises_ext h1.2.2.2.1 h2.2.2.2.1 fun x => ⟨d x, b x⟩⟩
  · rintro ⟨rfl, rfl⟩
    exact ⟨⟨fun _ h => h, fun _ h => h⟩, fun _ h => h, fun _ h => h⟩
set_option maxHeartbeats 8000000 in
set_option maxRecDepth 100000 in
theorem order_not0 (A0 B0 : Option Addr) (c0 d0 : Nat) (s0 i0 : List Int) (A1 B1 : Option Addr) (c1 d1 : Nat) (s1 i1 : List Int) (A2 B2 : Option Addr) (c2 d2 : Nat) (s2 i2 : List Int) (w : World) (hE : LE w [(A0, c0, s0), (B0, d0, i0), (A1, c1, s1), (B1, d1, i1), (A2, c2, s2), (B2, d2, i2)] [] w) (m0 : decide (May s0 i0) = false) :
    Calls Tryz.prog 3 #[.agg #[.slice A0 s0.length c0, .slice B0 i0.length d0], .agg #[.slice A1 s1.length c1, .slice B1 i1.length d1], .agg #[.slice A2 s2.length c2, .slice B2 i2.length d2]] w fun e w' => e = .returned (.bool true) ∧ Below w.heap.size w w' := by
  have hu24 := Tryz.underlying24
  have HE := Aside0.mk (((hE.boxed (.slice A0 s0.length c0) (.slice B0 i0.length d0) (w.heap.size) rfl).boxed (.slice A1 s1.length c1) (.slice B1 i1.length d1) (w.heap.size + 1) (by simp)).boxed (.slice A2 s2.length c2) (.slice B2 i2.length d2) (w.heap.size + 1 + 1) (by simp))
  clear hE
  go_enter Tryz.func3, Tryz.ntmps3
  go_wp2_with (first
    | (go_at_call 10; (with_reducible refine (mayE HE.out (by repeat (first | exact List.mem_cons_self | apply List.mem_cons_of_mem)) (by repeat (first | exact List.mem_cons_self | apply List.mem_cons_of_mem)) (by assumption)).mono ?_); rintro e w1 ⟨rfl, hE⟩; clear HE; have HE := Aside0.mk hE; obtain ⟨q0, q1, q2, q3, q4, q5⟩ := hE.b3; clear hE)
    | (go_at_call 12; (with_reducible refine (lawflowsE HE.out (by repeat (first | exact List.mem_cons_self | apply List.mem_cons_of_mem)) (by repeat (first | exact List.mem_cons_self | apply List.mem_cons_of_mem)) (by repeat (first | exact List.mem_cons_self | apply List.mem_cons_of_mem)) (by repeat (first | exact List.mem_cons_self | apply List.mem_cons_of_mem)) (by assumption)).mono ?_); rintro e w1 ⟨rfl, hE⟩; clear HE; have HE := Aside0.mk hE; obtain ⟨q0, q1, q2, q3, q4, q5⟩ := hE.b3; clear hE)
    | (go_at_call 11; (with_reducible refine (awakeE HE.out).mono ?_); rintro e w1 ⟨rfl, hE⟩; clear HE; have HE := Aside0.mk hE; obtain ⟨q0, q1, q2, q3, q4, q5⟩ := hE.b3; clear hE))
  go_ret
  exact ⟨rfl, HE.out.below⟩
set_option maxHeartbeats 8000000 in
set_option maxRecDepth 100000 in
theorem order_not1 (A0 B0 : Option Addr) (c0 d0 : Nat) (s0 i0 : List Int) (A1 B1 : Option Addr) (c1 d1 : Nat) (s1 i1 : List Int) (A2 B2 : Option Addr) (c2 d2 : Nat) (s2 i2 : List Int) (w : World) (hE : LE w [(A0, c0, s0), (B0, d0, i0), (A1, c1, s1), (B1, d1, i1), (A2, c2, s2), (B2, d2, i2)] [] w) (m0 : decide (May s0 i0) = true) (m1 : decide (May s1 i1) = false) :
    Calls Tryz.prog 3 #[.agg #[.slice A0 s0.length c0, .slice B0 i0.length d0], .agg #[.slice A1 s1.length c1, .slice B1 i1.length d1], .agg #[.slice A2 s2.length c2, .slice B2 i2.length d2]] w fun e w' => e = .returned (.bool true) ∧ Below w.heap.size w w' := by
  have hu24 := Tryz.underlying24
  have HE := Aside0.mk (((hE.boxed (.slice A0 s0.length c0) (.slice B0 i0.length d0) (w.heap.size) rfl).boxed (.slice A1 s1.length c1) (.slice B1 i1.length d1) (w.heap.size + 1) (by simp)).boxed (.slice A2 s2.length c2) (.slice B2 i2.length d2) (w.heap.size + 1 + 1) (by simp))
  clear hE
  go_enter Tryz.func3, Tryz.ntmps3
  go_wp2_with (first
    | (go_at_call 10; (with_reducible refine (mayE HE.out (by repeat (first | exact List.mem_cons_self | apply List.mem_cons_of_mem)) (by repeat (first | exact List.mem_cons_self | apply List.mem_cons_of_mem)) (by assumption)).mono ?_); rintro e w1 ⟨rfl, hE⟩; clear HE; have HE := Aside0.mk hE; obtain ⟨q0, q1, q2, q3, q4, q5⟩ := hE.b3; clear hE)
    | (go_at_call 12; (with_reducible refine (lawflowsE HE.out (by repeat (first | exact List.mem_cons_self | apply List.mem_cons_of_mem)) (by repeat (first | exact List.mem_cons_self | apply List.mem_cons_of_mem)) (by repeat (first | exact List.mem_cons_self | apply List.mem_cons_of_mem)) (by repeat (first | exact List.mem_cons_self | apply List.mem_cons_of_mem)) (by assumption)).mono ?_); rintro e w1 ⟨rfl, hE⟩; clear HE; have HE := Aside0.mk hE; obtain ⟨q0, q1, q2, q3, q4, q5⟩ := hE.b3; clear hE)
    | (go_at_call 11; (with_reducible refine (awakeE HE.out).mono ?_); rintro e w1 ⟨rfl, hE⟩; clear HE; have HE := Aside0.mk hE; obtain ⟨q0, q1, q2, q3, q4, q5⟩ := hE.b3; clear hE))
  go_ret
  exact ⟨rfl, HE.out.below⟩
set_option maxHeartbeats 8000000 in
set_option maxRecDepth 100000 in
theorem order_not2 (A0 B0 : Option Addr) (c0 d0 : Nat) (s0 i0 : List Int) (A1 B1 : Option Addr) (c1 d1 : Nat) (s1 i1 : List Int) (A2 B2 : Option Addr) (c2 d2 : Nat) (s2 i2 : List Int) (w : World) (hE : LE w [(A0, c0, s0), (B0, d0, i0), (A1, c1, s1), (B1, d1, i1), (A2, c2, s2), (B2, d2, i2)] [] w) (m0 : decide (May s0 i0) = true) (m1 : decide (May s1 i1) = true) (m2 : decide (May s2 i2) = false) :
    Calls Tryz.prog 3 #[.agg #[.slice A0 s0.length c0, .slice B0 i0.length d0], .agg #[.slice A1 s1.length c1, .slice B1 i1.length d1], .agg #[.slice A2 s2.length c2, .slice B2 i2.length d2]] w fun e w' => e = .returned (.bool true) ∧ Below w.heap.size w w' := by
  have hu24 := Tryz.underlying24
  have HE := Aside0.mk (((hE.boxed (.slice A0 s0.length c0) (.slice B0 i0.length d0) (w.heap.size) rfl).boxed (.slice A1 s1.length c1) (.slice B1 i1.length d1) (w.heap.size + 1) (by simp)).boxed (.slice A2 s2.length c2) (.slice B2 i2.length d2) (w.heap.size + 1 + 1) (by simp))
  clear hE
  go_enter Tryz.func3, Tryz.ntmps3
  go_wp2_with (first
    | (go_at_call 10; (with_reducible refine (mayE HE.out (by repeat (first | exact List.mem_cons_self | apply List.mem_cons_of_mem)) (by repeat (first | exact List.mem_cons_self | apply List.mem_cons_of_mem)) (by assumption)).mono ?_); rintro e w1 ⟨rfl, hE⟩; clear HE; have HE := Aside0.mk hE; obtain ⟨q0, q1, q2, q3, q4, q5⟩ := hE.b3; clear hE)
    | (go_at_call 12; (with_reducible refine (lawflowsE HE.out (by repeat (first | exact List.mem_cons_self | apply List.mem_cons_of_mem)) (by repeat (first | exact List.mem_cons_self | apply List.mem_cons_of_mem)) (by repeat (first | exact List.mem_cons_self | apply List.mem_cons_of_mem)) (by repeat (first | exact List.mem_cons_self | apply List.mem_cons_of_mem)) (by assumption)).mono ?_); rintro e w1 ⟨rfl, hE⟩; clear HE; have HE := Aside0.mk hE; obtain ⟨q0, q1, q2, q3, q4, q5⟩ := hE.b3; clear hE)
    | (go_at_call 11; (with_reducible refine (awakeE HE.out).mono ?_); rintro e w1 ⟨rfl, hE⟩; clear HE; have HE := Aside0.mk hE; obtain ⟨q0, q1, q2, q3, q4, q5⟩ := hE.b3; clear hE))
  go_ret
  exact ⟨rfl, HE.out.below⟩
set_option maxHeartbeats 8000000 in
set_option maxRecDepth 100000 in
theorem order_f_x_x (A0 B0 : Option Addr) (c0 d0 : Nat) (s0 i0 : List Int) (A1 B1 : Option Addr) (c1 d1 : Nat) (s1 i1 : List Int) (A2 B2 : Option Addr) (c2 d2 : Nat) (s2 i2 : List Int) (w : World) (hE : LE w [(A0, c0, s0), (B0, d0, i0), (A1, c1, s1), (B1, d1, i1), (A2, c2, s2), (B2, d2, i2)] [] w) (m0 : decide (May s0 i0) = true) (m1 : decide (May s1 i1) = true) (m2 : decide (May s2 i2) = true) (f00 : flowB s0 i0 s0 i0 = true) (f01 : flowB s0 i0 s1 i1 = false) (k0 : s0.length ≤ 1048576) (k1 : i0.length ≤ 1048576) (al : decide (s0 = s1 ∧ i0 = i1) = false) :
    Calls Tryz.prog 3 #[.agg #[.slice A0 s0.length c0, .slice B0 i0.length d0], .agg #[.slice A1 s1.length c1, .slice B1 i1.length d1], .agg #[.slice A2 s2.length c2, .slice B2 i2.length d2]] w fun e w' => e = .returned (.bool true) ∧ Below w.heap.size w w' := by
  have hu24 := Tryz.underlying24
  have HE := Aside0.mk (((hE.boxed (.slice A0 s0.length c0) (.slice B0 i0.length d0) (w.heap.size) rfl).boxed (.slice A1 s1.length c1) (.slice B1 i1.length d1) (w.heap.size + 1) (by simp)).boxed (.slice A2 s2.length c2) (.slice B2 i2.length d2) (w.heap.size + 1 + 1) (by simp))
  clear hE
  go_enter Tryz.func3, Tryz.ntmps3
  go_wp2_with (first
    | (go_at_call 10; (with_reducible refine (mayE HE.out (by repeat (first | exact List.mem_cons_self | apply List.mem_cons_of_mem)) (by repeat (first | exact List.mem_cons_self | apply List.mem_cons_of_mem)) (by assumption)).mono ?_); rintro e w1 ⟨rfl, hE⟩; clear HE; have HE := Aside0.mk hE; obtain ⟨q0, q1, q2, q3, q4, q5⟩ := hE.b3; clear hE)
    | (go_at_call 12; (with_reducible refine (lawflowsE HE.out (by repeat (first | exact List.mem_cons_self | apply List.mem_cons_of_mem)) (by repeat (first | exact List.mem_cons_self | apply List.mem_cons_of_mem)) (by repeat (first | exact List.mem_cons_self | apply List.mem_cons_of_mem)) (by repeat (first | exact List.mem_cons_self | apply List.mem_cons_of_mem)) (by assumption)).mono ?_); rintro e w1 ⟨rfl, hE⟩; clear HE; have HE := Aside0.mk hE; obtain ⟨q0, q1, q2, q3, q4, q5⟩ := hE.b3; clear hE)
    | (go_at_call 11; (with_reducible refine (awakeE HE.out).mono ?_); rintro e w1 ⟨rfl, hE⟩; clear HE; have HE := Aside0.mk hE; obtain ⟨q0, q1, q2, q3, q4, q5⟩ := hE.b3; clear hE))
  refine start_ (n := 16) (S := fun w' => w'.cell? ⟨w.heap.size, 0, none⟩ = some (.slice A0 s0.length c0) ∧ w'.cell? ⟨w.heap.size, 1, none⟩ = some (.slice B0 i0.length d0) ∧ w'.cell? ⟨w.heap.size + 1, 0, none⟩ = some (.slice A1 s1.length c1) ∧ w'.cell? ⟨w.heap.size + 1, 1, none⟩ = some (.slice B1 i1.length d1)) (ds := []) #[false, false, false, false, false, false, false, false, false, false, false, false, false, false, false, false] (by kernel_rfl) rfl rfl ⟨q4, q5, q2, q3⟩ (fun hHeld => ?_)
  refine take_ (i := 0) (N := some 41) (v := ?_) (a' := ?_) #[true, false, false, false, false, false, false, false, false, false, false, false, false, false, false, false] rfl rfl (by kernel_rfl) (fun _ _ _ h => h) (Or.inl ⟨by rfl, ?_⟩) hHeld ?_ ?_
  rotate_left
  · rintro w' ⟨s0, s1, s2, s3⟩
    go_simp
    with_reducible rfl
  rotate_left
  · simp only [Act.put, List.setIfInBounds_toArray, List.set_cons_zero, List.set_cons_succ, i64_w, i32_w]
    rfl
  refine take_ (i := 1) (N := some 42) (v := ?_) (a' := ?_) #[true, true, false, false, false, false, false, false, false, false, false, false, false, false, false, false] rfl rfl (by kernel_rfl) (fun _ _ _ h => h) (Or.inl ⟨by rfl, ?_⟩) hHeld ?_ ?_
  rotate_left
  · rintro w' ⟨s0, s1, s2, s3⟩
    go_simp
    with_reducible rfl
  rotate_left
  · simp only [Act.put, List.setIfInBounds_toArray, List.set_cons_zero, List.set_cons_succ, i64_w, i32_w]
    rfl
  refine take_ (i := 8) (N := some 49) (v := ?_) (a' := ?_) #[true, true, false, false, false, false, false, false, true, false, false, false, false, false, false, false] rfl rfl (by kernel_rfl) (fun _ _ _ h => h) (Or.inl ⟨by rfl, ?_⟩) hHeld ?_ ?_
  rotate_left
  · rintro w' ⟨s0, s1, s2, s3⟩
    go_simp
    with_reducible rfl
  rotate_left
  · simp only [Act.put, List.setIfInBounds_toArray, List.set_cons_zero, List.set_cons_succ, i64_w, i32_w]
    rfl
  refine take_ (i := 9) (N := some 50) (v := ?_) (a' := ?_) #[true, true, false, false, false, false, false, false, true, true, false, false, false, false, false, false] rfl rfl (by kernel_rfl) (fun _ _ _ h => h) (Or.inl ⟨by rfl, ?_⟩) hHeld ?_ ?_
  rotate_left
  · rintro w' ⟨s0, s1, s2, s3⟩
    go_simp
    with_reducible rfl
  rotate_left
  · simp only [Act.put, List.setIfInBounds_toArray, List.set_cons_zero, List.set_cons_succ, i64_w, i32_w]
    rfl
  refine one_ (i := 2) (N := some 43) #[true, true, true, false, false, false, false, false, true, true, false, false, false, false, false, false] rfl rfl (by kernel_rfl) (by decide) (fun K hK => ?_)
  refine goes_ Tryz.func12 (by kernel_rfl) rfl #[.agg #[.slice A0 s0.length c0, .slice B0 i0.length d0], .agg #[.slice A1 s1.length c1, .slice B1 i1.length d1]] (by rfl) rfl rfl (by simp only [List.map_toArray, List.map_cons, List.map_nil]; try rfl) ?_
  with_reducible refine (lawflowsE HE.out.drew (by repeat (first | exact List.mem_cons_self | apply List.mem_cons_of_mem)) (by repeat (first | exact List.mem_cons_self | apply List.mem_cons_of_mem)) (by repeat (first | exact List.mem_cons_self | apply List.mem_cons_of_mem)) (by repeat (first | exact List.mem_cons_self | apply List.mem_cons_of_mem)) f01).mono ?_
  rintro e w3 ⟨rfl, hE⟩
  refine ⟨_, rfl, ?_⟩
  clear HE
  have HE := Aside0.mk hE
  clear q0 q1 q2 q3 q4 q5
  obtain ⟨q0, q1, q2, q3, q4, q5⟩ := hE.b3
  clear hE
  refine hK.out _ _ ⟨q4, q5, q2, q3⟩ (fun hHeld => ?_)
  clear hK K
  refine norm_ (a' := ?_) ?_ ?_
  rotate_left
  · show Act.put _ (some 43) _ = _
    simp only [Act.put, List.setIfInBounds_toArray, List.set_cons_zero, List.set_cons_succ, i64_w, i32_w]
    rfl
  refine pure_ (i := 3) (N := some 44) (v := ?_) (a' := ?_) #[true, true, true, true, false, false, false, false, true, true, false, false, false, false, false, false] rfl rfl (by kernel_rfl) (fun _ _ _ h => h) (Or.inl ⟨by rfl, ?_⟩) ?_ ?_
  rotate_left
  · intro w'
    go_simp
    with_reducible rfl
  rotate_left
  · simp only [Act.put, List.setIfInBounds_toArray, List.set_cons_zero, List.set_cons_succ, i64_w, i32_w]
    rfl
  refine pure_ (i := 4) (N := some 45) (v := undef) (a' := ?_) #[true, true, true, true, true, false, false, false, true, true, false, false, false, false, false, false] rfl rfl (by kernel_rfl) (fun _ _ _ h => h) (Or.inr ⟨by rfl, rfl⟩) ?_ ?_
  rotate_left
  · simp only [Act.put, List.setIfInBounds_toArray, List.set_cons_zero, List.set_cons_succ, i64_w, i32_w]
    rfl
  refine pure_ (i := 5) (N := some 46) (v := undef) (a' := ?_) #[true, true, true, true, true, true, false, false, true, true, false, false, false, false, false, false] rfl rfl (by kernel_rfl) (fun _ _ _ h => h) (Or.inr ⟨by rfl, rfl⟩) ?_ ?_
  rotate_left
  · simp only [Act.put, List.setIfInBounds_toArray, List.set_cons_zero, List.set_cons_succ, i64_w, i32_w]
    rfl
  refine pure_ (i := 6) (N := some 47) (v := undef) (a' := ?_) #[true, true, true, true, true, true, true, false, true, true, false, false, false, false, false, false] rfl rfl (by kernel_rfl) (fun _ _ _ h => h) (Or.inr ⟨by rfl, rfl⟩) ?_ ?_
  rotate_left
  · simp only [Act.put, List.setIfInBounds_toArray, List.set_cons_zero, List.set_cons_succ, i64_w, i32_w]
    rfl
  refine pure_ (i := 7) (N := some 48) (v := ?_) (a' := ?_) #[true, true, true, true, true, true, true, true, true, true, false, false, false, false, false, false] rfl rfl (by kernel_rfl) (fun _ _ _ h => h) (Or.inl ⟨by rfl, ?_⟩) ?_ ?_
  rotate_left
  · intro w'
    go_simp
    with_reducible rfl
  rotate_left
  · simp only [Act.put, List.setIfInBounds_toArray, List.set_cons_zero, List.set_cons_succ, i64_w, i32_w]
    rfl
  refine one_ (i := 10) (N := some 51) #[true, true, true, true, true, true, true, true, true, true, true, false, false, false, false, false] rfl rfl (by kernel_rfl) (by decide) (fun K hK => ?_)
  refine goes_ Tryz.func13 (by kernel_rfl) rfl #[.agg #[.slice A0 s0.length c0, .slice B0 i0.length d0], .agg #[.slice A1 s1.length c1, .slice B1 i1.length d1]] (by rfl) rfl rfl (by simp only [List.map_toArray, List.map_cons, List.map_nil]; try rfl) ?_
  with_reducible refine (alikeE HE.out (by repeat (first | exact List.mem_cons_self | apply List.mem_cons_of_mem)) (by repeat (first | exact List.mem_cons_self | apply List.mem_cons_of_mem)) (by repeat (first | exact List.mem_cons_self | apply List.mem_cons_of_mem)) (by repeat (first | exact List.mem_cons_self | apply List.mem_cons_of_mem)) k0 k1 al).mono ?_
  rintro e w3 ⟨rfl, hE⟩
  refine ⟨_, rfl, ?_⟩
  clear HE
  have HE := Aside0.mk hE
  clear q0 q1 q2 q3 q4 q5
  obtain ⟨q0, q1, q2, q3, q4, q5⟩ := hE.b3
  clear hE
  refine hK.out _ _ ⟨q4, q5, q2, q3⟩ (fun hHeld => ?_)
  clear hK K
  refine norm_ (a' := ?_) ?_ ?_
  rotate_left
  · show Act.put _ (some 51) _ = _
    simp only [Act.put, List.setIfInBounds_toArray, List.set_cons_zero, List.set_cons_succ, i64_w, i32_w]
    rfl
  refine pure_ (i := 11) (N := some 52) (v := ?_) (a' := ?_) #[true, true, true, true, true, true, true, true, true, true, true, true, false, false, false, false] rfl rfl (by kernel_rfl) (fun _ _ _ h => h) (Or.inl ⟨by rfl, ?_⟩) ?_ ?_
  rotate_left
  · intro w'
    go_simp
    with_reducible rfl
  rotate_left
  · simp only [Act.put, List.setIfInBounds_toArray, List.set_cons_zero, List.set_cons_succ, i64_w, i32_w]
    rfl
  refine pure_ (i := 12) (N := some 53) (v := ?_) (a' := ?_) #[true, true, true, true, true, true, true, true, true, true, true, true, true, false, false, false] rfl rfl (by kernel_rfl) (fun _ _ _ h => h) (Or.inl ⟨by rfl, ?_⟩) ?_ ?_
  rotate_left
  · intro w'
    go_simp
    with_reducible rfl
  rotate_left
  · simp only [Act.put, List.setIfInBounds_toArray, List.set_cons_zero, List.set_cons_succ, i64_w, i32_w]
    rfl
  refine one_ (i := 13) (N := some 54) #[true, true, true, true, true, true, true, true, true, true, true, true, true, true, false, false] rfl rfl (by kernel_rfl) (by decide) (fun K hK => ?_)
  refine goes_ Tryz.func11 (by kernel_rfl) rfl #[] (by rfl) rfl rfl (by simp only [List.map_toArray, List.map_cons, List.map_nil]; try rfl) ?_
  with_reducible refine (awakeE HE.out).mono ?_
  rintro e w3 ⟨rfl, hE⟩
  refine ⟨_, rfl, ?_⟩
  clear HE
  have HE := Aside0.mk hE
  clear q0 q1 q2 q3 q4 q5
  obtain ⟨q0, q1, q2, q3, q4, q5⟩ := hE.b3
  clear hE
  refine hK.out _ _ ⟨q4, q5, q2, q3⟩ (fun hHeld => ?_)
  clear hK K
  refine norm_ (a' := ?_) ?_ ?_
  rotate_left
  · show Act.put _ (some 54) _ = _
    simp only [Act.put, List.setIfInBounds_toArray, List.set_cons_zero, List.set_cons_succ, i64_w, i32_w]
    rfl
  refine pure_ (i := 14) (N := some 55) (v := ?_) (a' := ?_) #[true, true, true, true, true, true, true, true, true, true, true, true, true, true, true, false] rfl rfl (by kernel_rfl) (fun _ _ _ h => h) (Or.inl ⟨by rfl, ?_⟩) ?_ ?_
  rotate_left
  · intro w'
    go_simp
    with_reducible rfl
  rotate_left
  · simp only [Act.put, List.setIfInBounds_toArray, List.set_cons_zero, List.set_cons_succ, i64_w, i32_w]
    rfl
  refine pure_ (i := 15) (N := some 6) (v := ?_) (a' := ?_) #[true, true, true, true, true, true, true, true, true, true, true, true, true, true, true, true] rfl rfl (by kernel_rfl) (fun _ _ _ h => h) (Or.inl ⟨by rfl, ?_⟩) ?_ ?_
  rotate_left
  · intro w'
    go_simp
    with_reducible rfl
  rotate_left
  · simp only [Act.put, List.setIfInBounds_toArray, List.set_cons_zero, List.set_cons_succ, i64_w, i32_w]
    rfl
  refine done_ (by kernel_rfl) ?_

  go_wp2
  go_ret
  exact ⟨by first | rfl | simp, HE.out.below⟩
set_option maxHeartbeats 8000000 in
set_option maxRecDepth 100000 in
theorem order_t_t_t (A0 B0 : Option Addr) (c0 d0 : Nat) (s0 i0 : List Int) (A1 B1 : Option Addr) (c1 d1 : Nat) (s1 i1 : List Int) (A2 B2 : Option Addr) (c2 d2 : Nat) (s2 i2 : List Int) (w : World) (hE : LE w [(A0, c0, s0), (B0, d0, i0), (A1, c1, s1), (B1, d1, i1), (A2, c2, s2), (B2, d2, i2)] [] w) (m0 : decide (May s0 i0) = true) (m1 : decide (May s1 i1) = true) (m2 : decide (May s2 i2) = true) (f00 : flowB s0 i0 s0 i0 = true) (f01 : flowB s0 i0 s1 i1 = true) (f12 : flowB s1 i1 s2 i2 = true) (f02 : flowB s0 i0 s2 i2 = true) (f10 : flowB s1 i1 s0 i0 = true) (k0 : s0.length ≤ 1048576) (k1 : i0.length ≤ 1048576) (al : decide (s0 = s1 ∧ i0 = i1) = true) :
    Calls Tryz.prog 3 #[.agg #[.slice A0 s0.length c0, .slice B0 i0.length d0], .agg #[.slice A1 s1.length c1, .slice B1 i1.length d1], .agg #[.slice A2 s2.length c2, .slice B2 i2.length d2]] w fun e w' => e = .returned (.bool true) ∧ Below w.heap.size w w' := by
  have hu24 := Tryz.underlying24
  have HE := Aside0.mk (((hE.boxed (.slice A0 s0.length c0) (.slice B0 i0.length d0) (w.heap.size) rfl).boxed (.slice A1 s1.length c1) (.slice B1 i1.length d1) (w.heap.size + 1) (by simp)).boxed (.slice A2 s2.length c2) (.slice B2 i2.length d2) (w.heap.size + 1 + 1) (by simp))
  clear hE
  go_enter Tryz.func3, Tryz.ntmps3
  go_wp2_with (first
    | (go_at_call 10; (with_reducible refine (mayE HE.out (by repeat (first | exact List.mem_cons_self | apply List.mem_cons_of_mem)) (by repeat (first | exact List.mem_cons_self | apply List.mem_cons_of_mem)) (by assumption)).mono ?_); rintro e w1 ⟨rfl, hE⟩; clear HE; have HE := Aside0.mk hE; obtain ⟨q0, q1, q2, q3, q4, q5⟩ := hE.b3; clear hE)
    | (go_at_call 12; (with_reducible refine (lawflowsE HE.out (by repeat (first | exact List.mem_cons_self | apply List.mem_cons_of_mem)) (by repeat (first | exact List.mem_cons_self | apply List.mem_cons_of_mem)) (by repeat (first | exact List.mem_cons_self | apply List.mem_cons_of_mem)) (by repeat (first | exact List.mem_cons_self | apply List.mem_cons_of_mem)) (by assumption)).mono ?_); rintro e w1 ⟨rfl, hE⟩; clear HE; have HE := Aside0.mk hE; obtain ⟨q0, q1, q2, q3, q4, q5⟩ := hE.b3; clear hE)
    | (go_at_call 11; (with_reducible refine (awakeE HE.out).mono ?_); rintro e w1 ⟨rfl, hE⟩; clear HE; have HE := Aside0.mk hE; obtain ⟨q0, q1, q2, q3, q4, q5⟩ := hE.b3; clear hE))
  refine start_ (n := 16) (S := fun w' => w'.cell? ⟨w.heap.size, 0, none⟩ = some (.slice A0 s0.length c0) ∧ w'.cell? ⟨w.heap.size, 1, none⟩ = some (.slice B0 i0.length d0) ∧ w'.cell? ⟨w.heap.size + 1, 0, none⟩ = some (.slice A1 s1.length c1) ∧ w'.cell? ⟨w.heap.size + 1, 1, none⟩ = some (.slice B1 i1.length d1)) (ds := []) #[false, false, false, false, false, false, false, false, false, false, false, false, false, false, false, false] (by kernel_rfl) rfl rfl ⟨q4, q5, q2, q3⟩ (fun hHeld => ?_)
  refine take_ (i := 0) (N := some 41) (v := ?_) (a' := ?_) #[true, false, false, false, false, false, false, false, false, false, false, false, false, false, false, false] rfl rfl (by kernel_rfl) (fun _ _ _ h => h) (Or.inl ⟨by rfl, ?_⟩) hHeld ?_ ?_
  rotate_left
  · rintro w' ⟨s0, s1, s2, s3⟩
    go_simp
    with_reducible rfl
  rotate_left
  · simp only [Act.put, List.setIfInBounds_toArray, List.set_cons_zero, List.set_cons_succ, i64_w, i32_w]
    rfl
  refine take_ (i := 1) (N := some 42) (v := ?_) (a' := ?_) #[true, true, false, false, false, false, false, false, false, false, false, false, false, false, false, false] rfl rfl (by kernel_rfl) (fun _ _ _ h => h) (Or.inl ⟨by rfl, ?_⟩) hHeld ?_ ?_
  rotate_left
  · rintro w' ⟨s0, s1, s2, s3⟩
    go_simp
    with_reducible rfl
  rotate_left
  · simp only [Act.put, List.setIfInBounds_toArray, List.set_cons_zero, List.set_cons_succ, i64_w, i32_w]
    rfl
  refine take_ (i := 8) (N := some 49) (v := ?_) (a' := ?_) #[true, true, false, false, false, false, false, false, true, false, false, false, false, false, false, false] rfl rfl (by kernel_rfl) (fun _ _ _ h => h) (Or.inl ⟨by rfl, ?_⟩) hHeld ?_ ?_
  rotate_left
  · rintro w' ⟨s0, s1, s2, s3⟩
    go_simp
    with_reducible rfl
  rotate_left
  · simp only [Act.put, List.setIfInBounds_toArray, List.set_cons_zero, List.set_cons_succ, i64_w, i32_w]
    rfl
  refine take_ (i := 9) (N := some 50) (v := ?_) (a' := ?_) #[true, true, false, false, false, false, false, false, true, true, false, false, false, false, false, false] rfl rfl (by kernel_rfl) (fun _ _ _ h => h) (Or.inl ⟨by rfl, ?_⟩) hHeld ?_ ?_
  rotate_left
  · rintro w' ⟨s0, s1, s2, s3⟩
    go_simp
    with_reducible rfl
  rotate_left
  · simp only [Act.put, List.setIfInBounds_toArray, List.set_cons_zero, List.set_cons_succ, i64_w, i32_w]
    rfl
  refine one_ (i := 2) (N := some 43) #[true, true, true, false, false, false, false, false, true, true, false, false, false, false, false, false] rfl rfl (by kernel_rfl) (by decide) (fun K hK => ?_)
  refine goes_ Tryz.func12 (by kernel_rfl) rfl #[.agg #[.slice A0 s0.length c0, .slice B0 i0.length d0], .agg #[.slice A1 s1.length c1, .slice B1 i1.length d1]] (by rfl) rfl rfl (by simp only [List.map_toArray, List.map_cons, List.map_nil]; try rfl) ?_
  with_reducible refine (lawflowsE HE.out.drew (by repeat (first | exact List.mem_cons_self | apply List.mem_cons_of_mem)) (by repeat (first | exact List.mem_cons_self | apply List.mem_cons_of_mem)) (by repeat (first | exact List.mem_cons_self | apply List.mem_cons_of_mem)) (by repeat (first | exact List.mem_cons_self | apply List.mem_cons_of_mem)) f01).mono ?_
  rintro e w3 ⟨rfl, hE⟩
  refine ⟨_, rfl, ?_⟩
  clear HE
  have HE := Aside0.mk hE
  clear q0 q1 q2 q3 q4 q5
  obtain ⟨q0, q1, q2, q3, q4, q5⟩ := hE.b3
  clear hE
  refine hK.out _ _ ⟨q4, q5, q2, q3⟩ (fun hHeld => ?_)
  clear hK K
  refine norm_ (a' := ?_) ?_ ?_
  rotate_left
  · show Act.put _ (some 43) _ = _
    simp only [Act.put, List.setIfInBounds_toArray, List.set_cons_zero, List.set_cons_succ, i64_w, i32_w]
    rfl
  refine pure_ (i := 3) (N := some 44) (v := ?_) (a' := ?_) #[true, true, true, true, false, false, false, false, true, true, false, false, false, false, false, false] rfl rfl (by kernel_rfl) (fun _ _ _ h => h) (Or.inl ⟨by rfl, ?_⟩) ?_ ?_
  rotate_left
  · intro w'
    go_simp
    with_reducible rfl
  rotate_left
  · simp only [Act.put, List.setIfInBounds_toArray, List.set_cons_zero, List.set_cons_succ, i64_w, i32_w]
    rfl
  refine take_ (i := 4) (N := some 45) (v := ?_) (a' := ?_) #[true, true, true, true, true, false, false, false, true, true, false, false, false, false, false, false] rfl rfl (by kernel_rfl) (fun _ _ _ h => h) (Or.inl ⟨by rfl, ?_⟩) hHeld ?_ ?_
  rotate_left
  · rintro w' ⟨s0, s1, s2, s3⟩
    go_simp
    with_reducible rfl
  rotate_left
  · simp only [Act.put, List.setIfInBounds_toArray, List.set_cons_zero, List.set_cons_succ, i64_w, i32_w]
    rfl
  refine take_ (i := 5) (N := some 46) (v := ?_) (a' := ?_) #[true, true, true, true, true, true, false, false, true, true, false, false, false, false, false, false] rfl rfl (by kernel_rfl) (fun _ _ _ h => h) (Or.inl ⟨by rfl, ?_⟩) hHeld ?_ ?_
  rotate_left
  · rintro w' ⟨s0, s1, s2, s3⟩
    go_simp
    with_reducible rfl
  rotate_left
  · simp only [Act.put, List.setIfInBounds_toArray, List.set_cons_zero, List.set_cons_succ, i64_w, i32_w]
    rfl
  refine one_ (i := 6) (N := some 47) #[true, true, true, true, true, true, true, false, true, true, false, false, false, false, false, false] rfl rfl (by kernel_rfl) (by decide) (fun K hK => ?_)
  refine goes_ Tryz.func12 (by kernel_rfl) rfl #[.agg #[.slice A1 s1.length c1, .slice B1 i1.length d1], .agg #[.slice A0 s0.length c0, .slice B0 i0.length d0]] (by rfl) rfl rfl (by simp only [List.map_toArray, List.map_cons, List.map_nil]; try rfl) ?_
  with_reducible refine (lawflowsE HE.out (by repeat (first | exact List.mem_cons_self | apply List.mem_cons_of_mem)) (by repeat (first | exact List.mem_cons_self | apply List.mem_cons_of_mem)) (by repeat (first | exact List.mem_cons_self | apply List.mem_cons_of_mem)) (by repeat (first | exact List.mem_cons_self | apply List.mem_cons_of_mem)) f10).mono ?_
  rintro e w3 ⟨rfl, hE⟩
  refine ⟨_, rfl, ?_⟩
  clear HE
  have HE := Aside0.mk hE
  clear q0 q1 q2 q3 q4 q5
  obtain ⟨q0, q1, q2, q3, q4, q5⟩ := hE.b3
  clear hE
  refine hK.out _ _ ⟨q4, q5, q2, q3⟩ (fun hHeld => ?_)
  clear hK K
  refine norm_ (a' := ?_) ?_ ?_
  rotate_left
  · show Act.put _ (some 47) _ = _
    simp only [Act.put, List.setIfInBounds_toArray, List.set_cons_zero, List.set_cons_succ, i64_w, i32_w]
    rfl
  refine pure_ (i := 7) (N := some 48) (v := ?_) (a' := ?_) #[true, true, true, true, true, true, true, true, true, true, false, false, false, false, false, false] rfl rfl (by kernel_rfl) (fun _ _ _ h => h) (Or.inl ⟨by rfl, ?_⟩) ?_ ?_
  rotate_left
  · intro w'
    go_simp
    with_reducible rfl
  rotate_left
  · simp only [Act.put, List.setIfInBounds_toArray, List.set_cons_zero, List.set_cons_succ, i64_w, i32_w]
    rfl
  refine one_ (i := 10) (N := some 51) #[true, true, true, true, true, true, true, true, true, true, true, false, false, false, false, false] rfl rfl (by kernel_rfl) (by decide) (fun K hK => ?_)
  refine goes_ Tryz.func13 (by kernel_rfl) rfl #[.agg #[.slice A0 s0.length c0, .slice B0 i0.length d0], .agg #[.slice A1 s1.length c1, .slice B1 i1.length d1]] (by rfl) rfl rfl (by simp only [List.map_toArray, List.map_cons, List.map_nil]; try rfl) ?_
  with_reducible refine (alikeE HE.out (by repeat (first | exact List.mem_cons_self | apply List.mem_cons_of_mem)) (by repeat (first | exact List.mem_cons_self | apply List.mem_cons_of_mem)) (by repeat (first | exact List.mem_cons_self | apply List.mem_cons_of_mem)) (by repeat (first | exact List.mem_cons_self | apply List.mem_cons_of_mem)) k0 k1 al).mono ?_
  rintro e w3 ⟨rfl, hE⟩
  refine ⟨_, rfl, ?_⟩
  clear HE
  have HE := Aside0.mk hE
  clear q0 q1 q2 q3 q4 q5
  obtain ⟨q0, q1, q2, q3, q4, q5⟩ := hE.b3
  clear hE
  refine hK.out _ _ ⟨q4, q5, q2, q3⟩ (fun hHeld => ?_)
  clear hK K
  refine norm_ (a' := ?_) ?_ ?_
  rotate_left
  · show Act.put _ (some 51) _ = _
    simp only [Act.put, List.setIfInBounds_toArray, List.set_cons_zero, List.set_cons_succ, i64_w, i32_w]
    rfl
  refine pure_ (i := 11) (N := some 52) (v := ?_) (a' := ?_) #[true, true, true, true, true, true, true, true, true, true, true, true, false, false, false, false] rfl rfl (by kernel_rfl) (fun _ _ _ h => h) (Or.inl ⟨by rfl, ?_⟩) ?_ ?_
  rotate_left
  · intro w'
    go_simp
    with_reducible rfl
  rotate_left
  · simp only [Act.put, List.setIfInBounds_toArray, List.set_cons_zero, List.set_cons_succ, i64_w, i32_w]
    rfl
  refine pure_ (i := 12) (N := some 53) (v := ?_) (a' := ?_) #[true, true, true, true, true, true, true, true, true, true, true, true, true, false, false, false] rfl rfl (by kernel_rfl) (fun _ _ _ h => h) (Or.inl ⟨by rfl, ?_⟩) ?_ ?_
  rotate_left
  · intro w'
    go_simp
    with_reducible rfl
  rotate_left
  · simp only [Act.put, List.setIfInBounds_toArray, List.set_cons_zero, List.set_cons_succ, i64_w, i32_w]
    rfl
  refine one_ (i := 13) (N := some 54) #[true, true, true, true, true, true, true, true, true, true, true, true, true, true, false, false] rfl rfl (by kernel_rfl) (by decide) (fun K hK => ?_)
  refine goes_ Tryz.func11 (by kernel_rfl) rfl #[] (by rfl) rfl rfl (by simp only [List.map_toArray, List.map_cons, List.map_nil]; try rfl) ?_
  with_reducible refine (awakeE HE.out).mono ?_
  rintro e w3 ⟨rfl, hE⟩
  refine ⟨_, rfl, ?_⟩
  clear HE
  have HE := Aside0.mk hE
  clear q0 q1 q2 q3 q4 q5
  obtain ⟨q0, q1, q2, q3, q4, q5⟩ := hE.b3
  clear hE
  refine hK.out _ _ ⟨q4, q5, q2, q3⟩ (fun hHeld => ?_)
  clear hK K
  refine norm_ (a' := ?_) ?_ ?_
  rotate_left
  · show Act.put _ (some 54) _ = _
    simp only [Act.put, List.setIfInBounds_toArray, List.set_cons_zero, List.set_cons_succ, i64_w, i32_w]
    rfl
  refine pure_ (i := 14) (N := some 55) (v := ?_) (a' := ?_) #[true, true, true, true, true, true, true, true, true, true, true, true, true, true, true, false] rfl rfl (by kernel_rfl) (fun _ _ _ h => h) (Or.inl ⟨by rfl, ?_⟩) ?_ ?_
  rotate_left
  · intro w'
    go_simp
    with_reducible rfl
  rotate_left
  · simp only [Act.put, List.setIfInBounds_toArray, List.set_cons_zero, List.set_cons_succ, i64_w, i32_w]
    rfl
  refine pure_ (i := 15) (N := some 6) (v := ?_) (a' := ?_) #[true, true, true, true, true, true, true, true, true, true, true, true, true, true, true, true] rfl rfl (by kernel_rfl) (fun _ _ _ h => h) (Or.inl ⟨by rfl, ?_⟩) ?_ ?_
  rotate_left
  · intro w'
    go_simp
    with_reducible rfl
  rotate_left
  · simp only [Act.put, List.setIfInBounds_toArray, List.set_cons_zero, List.set_cons_succ, i64_w, i32_w]
    rfl
  refine done_ (by kernel_rfl) ?_

  go_wp2
  go_ret
  exact ⟨by first | rfl | simp, HE.out.below⟩
set_option maxHeartbeats 8000000 in
set_option maxRecDepth 100000 in
theorem order_t_t_f (A0 B0 : Option Addr) (c0 d0 : Nat) (s0 i0 : List Int) (A1 B1 : Option Addr) (c1 d1 : Nat) (s1 i1 : List Int) (A2 B2 : Option Addr) (c2 d2 : Nat) (s2 i2 : List Int) (w : World) (hE : LE w [(A0, c0, s0), (B0, d0, i0), (A1, c1, s1), (B1, d1, i1), (A2, c2, s2), (B2, d2, i2)] [] w) (m0 : decide (May s0 i0) = true) (m1 : decide (May s1 i1) = true) (m2 : decide (May s2 i2) = true) (f00 : flowB s0 i0 s0 i0 = true) (f01 : flowB s0 i0 s1 i1 = true) (f12 : flowB s1 i1 s2 i2 = true) (f02 : flowB s0 i0 s2 i2 = true) (f10 : flowB s1 i1 s0 i0 = false) (k0 : s0.length ≤ 1048576) (k1 : i0.length ≤ 1048576) (al : decide (s0 = s1 ∧ i0 = i1) = false) :
    Calls Tryz.prog 3 #[.agg #[.slice A0 s0.length c0, .slice B0 i0.length d0], .agg #[.slice A1 s1.length c1, .slice B1 i1.length d1], .agg #[.slice A2 s2.length c2, .slice B2 i2.length d2]] w fun e w' => e = .returned (.bool true) ∧ Below w.heap.size w w' := by
  have hu24 := Tryz.underlying24
  have HE := Aside0.mk (((hE.boxed (.slice A0 s0.length c0) (.slice B0 i0.length d0) (w.heap.size) rfl).boxed (.slice A1 s1.length c1) (.slice B1 i1.length d1) (w.heap.size + 1) (by simp)).boxed (.slice A2 s2.length c2) (.slice B2 i2.length d2) (w.heap.size + 1 + 1) (by simp))
  clear hE
  go_enter Tryz.func3, Tryz.ntmps3
  go_wp2_with (first
    | (go_at_call 10; (with_reducible refine (mayE HE.out (by repeat (first | exact List.mem_cons_self | apply List.mem_cons_of_mem)) (by repeat (first | exact List.mem_cons_self | apply List.mem_cons_of_mem)) (by assumption)).mono ?_); rintro e w1 ⟨rfl, hE⟩; clear HE; have HE := Aside0.mk hE; obtain ⟨q0, q1, q2, q3, q4, q5⟩ := hE.b3; clear hE)
    | (go_at_call 12; (with_reducible refine (lawflowsE HE.out (by repeat (first | exact List.mem_cons_self | apply List.mem_cons_of_mem)) (by repeat (first | exact List.mem_cons_self | apply List.mem_cons_of_mem)) (by repeat (first | exact List.mem_cons_self | apply List.mem_cons_of_mem)) (by repeat (first | exact List.mem_cons_self | apply List.mem_cons_of_mem)) (by assumption)).mono ?_); rintro e w1 ⟨rfl, hE⟩; clear HE; have HE := Aside0.mk hE; obtain ⟨q0, q1, q2, q3, q4, q5⟩ := hE.b3; clear hE)
    | (go_at_call 11; (with_reducible refine (awakeE HE.out).mono ?_); rintro e w1 ⟨rfl, hE⟩; clear HE; have HE := Aside0.mk hE; obtain ⟨q0, q1, q2, q3, q4, q5⟩ := hE.b3; clear hE))
  refine start_ (n := 16) (S := fun w' => w'.cell? ⟨w.heap.size, 0, none⟩ = some (.slice A0 s0.length c0) ∧ w'.cell? ⟨w.heap.size, 1, none⟩ = some (.slice B0 i0.length d0) ∧ w'.cell? ⟨w.heap.size + 1, 0, none⟩ = some (.slice A1 s1.length c1) ∧ w'.cell? ⟨w.heap.size + 1, 1, none⟩ = some (.slice B1 i1.length d1)) (ds := []) #[false, false, false, false, false, false, false, false, false, false, false, false, false, false, false, false] (by kernel_rfl) rfl rfl ⟨q4, q5, q2, q3⟩ (fun hHeld => ?_)
  refine take_ (i := 0) (N := some 41) (v := ?_) (a' := ?_) #[true, false, false, false, false, false, false, false, false, false, false, false, false, false, false, false] rfl rfl (by kernel_rfl) (fun _ _ _ h => h) (Or.inl ⟨by rfl, ?_⟩) hHeld ?_ ?_
  rotate_left
  · rintro w' ⟨s0, s1, s2, s3⟩
    go_simp
    with_reducible rfl
  rotate_left
  · simp only [Act.put, List.setIfInBounds_toArray, List.set_cons_zero, List.set_cons_succ, i64_w, i32_w]
    rfl
  refine take_ (i := 1) (N := some 42) (v := ?_) (a' := ?_) #[true, true, false, false, false, false, false, false, false, false, false, false, false, false, false, false] rfl rfl (by kernel_rfl) (fun _ _ _ h => h) (Or.inl ⟨by rfl, ?_⟩) hHeld ?_ ?_
  rotate_left
  · rintro w' ⟨s0, s1, s2, s3⟩
    go_simp
    with_reducible rfl
  rotate_left
  · simp only [Act.put, List.setIfInBounds_toArray, List.set_cons_zero, List.set_cons_succ, i64_w, i32_w]
    rfl
  refine take_ (i := 8) (N := some 49) (v := ?_) (a' := ?_) #[true, true, false, false, false, false, false, false, true, false, false, false, false, false, false, false] rfl rfl (by kernel_rfl) (fun _ _ _ h => h) (Or.inl ⟨by rfl, ?_⟩) hHeld ?_ ?_
  rotate_left
  · rintro w' ⟨s0, s1, s2, s3⟩
    go_simp
    with_reducible rfl
  rotate_left
  · simp only [Act.put, List.setIfInBounds_toArray, List.set_cons_zero, List.set_cons_succ, i64_w, i32_w]
    rfl
  refine take_ (i := 9) (N := some 50) (v := ?_) (a' := ?_) #[true, true, false, false, false, false, false, false, true, true, false, false, false, false, false, false] rfl rfl (by kernel_rfl) (fun _ _ _ h => h) (Or.inl ⟨by rfl, ?_⟩) hHeld ?_ ?_
  rotate_left
  · rintro w' ⟨s0, s1, s2, s3⟩
    go_simp
    with_reducible rfl
  rotate_left
  · simp only [Act.put, List.setIfInBounds_toArray, List.set_cons_zero, List.set_cons_succ, i64_w, i32_w]
    rfl
  refine one_ (i := 2) (N := some 43) #[true, true, true, false, false, false, false, false, true, true, false, false, false, false, false, false] rfl rfl (by kernel_rfl) (by decide) (fun K hK => ?_)
  refine goes_ Tryz.func12 (by kernel_rfl) rfl #[.agg #[.slice A0 s0.length c0, .slice B0 i0.length d0], .agg #[.slice A1 s1.length c1, .slice B1 i1.length d1]] (by rfl) rfl rfl (by simp only [List.map_toArray, List.map_cons, List.map_nil]; try rfl) ?_
  with_reducible refine (lawflowsE HE.out.drew (by repeat (first | exact List.mem_cons_self | apply List.mem_cons_of_mem)) (by repeat (first | exact List.mem_cons_self | apply List.mem_cons_of_mem)) (by repeat (first | exact List.mem_cons_self | apply List.mem_cons_of_mem)) (by repeat (first | exact List.mem_cons_self | apply List.mem_cons_of_mem)) f01).mono ?_
  rintro e w3 ⟨rfl, hE⟩
  refine ⟨_, rfl, ?_⟩
  clear HE
  have HE := Aside0.mk hE
  clear q0 q1 q2 q3 q4 q5
  obtain ⟨q0, q1, q2, q3, q4, q5⟩ := hE.b3
  clear hE
  refine hK.out _ _ ⟨q4, q5, q2, q3⟩ (fun hHeld => ?_)
  clear hK K
  refine norm_ (a' := ?_) ?_ ?_
  rotate_left
  · show Act.put _ (some 43) _ = _
    simp only [Act.put, List.setIfInBounds_toArray, List.set_cons_zero, List.set_cons_succ, i64_w, i32_w]
    rfl
  refine pure_ (i := 3) (N := some 44) (v := ?_) (a' := ?_) #[true, true, true, true, false, false, false, false, true, true, false, false, false, false, false, false] rfl rfl (by kernel_rfl) (fun _ _ _ h => h) (Or.inl ⟨by rfl, ?_⟩) ?_ ?_
  rotate_left
  · intro w'
    go_simp
    with_reducible rfl
  rotate_left
  · simp only [Act.put, List.setIfInBounds_toArray, List.set_cons_zero, List.set_cons_succ, i64_w, i32_w]
    rfl
  refine take_ (i := 4) (N := some 45) (v := ?_) (a' := ?_) #[true, true, true, true, true, false, false, false, true, true, false, false, false, false, false, false] rfl rfl (by kernel_rfl) (fun _ _ _ h => h) (Or.inl ⟨by rfl, ?_⟩) hHeld ?_ ?_
  rotate_left
  · rintro w' ⟨s0, s1, s2, s3⟩
    go_simp
    with_reducible rfl
  rotate_left
  · simp only [Act.put, List.setIfInBounds_toArray, List.set_cons_zero, List.set_cons_succ, i64_w, i32_w]
    rfl
  refine take_ (i := 5) (N := some 46) (v := ?_) (a' := ?_) #[true, true, true, true, true, true, false, false, true, true, false, false, false, false, false, false] rfl rfl (by kernel_rfl) (fun _ _ _ h => h) (Or.inl ⟨by rfl, ?_⟩) hHeld ?_ ?_
  rotate_left
  · rintro w' ⟨s0, s1, s2, s3⟩
    go_simp
    with_reducible rfl
  rotate_left
  · simp only [Act.put, List.setIfInBounds_toArray, List.set_cons_zero, List.set_cons_succ, i64_w, i32_w]
    rfl
  refine one_ (i := 6) (N := some 47) #[true, true, true, true, true, true, true, false, true, true, false, false, false, false, false, false] rfl rfl (by kernel_rfl) (by decide) (fun K hK => ?_)
  refine goes_ Tryz.func12 (by kernel_rfl) rfl #[.agg #[.slice A1 s1.length c1, .slice B1 i1.length d1], .agg #[.slice A0 s0.length c0, .slice B0 i0.length d0]] (by rfl) rfl rfl (by simp only [List.map_toArray, List.map_cons, List.map_nil]; try rfl) ?_
  with_reducible refine (lawflowsE HE.out (by repeat (first | exact List.mem_cons_self | apply List.mem_cons_of_mem)) (by repeat (first | exact List.mem_cons_self | apply List.mem_cons_of_mem)) (by repeat (first | exact List.mem_cons_self | apply List.mem_cons_of_mem)) (by repeat (first | exact List.mem_cons_self | apply List.mem_cons_of_mem)) f10).mono ?_
  rintro e w3 ⟨rfl, hE⟩
  refine ⟨_, rfl, ?_⟩
  clear HE
  have HE := Aside0.mk hE
  clear q0 q1 q2 q3 q4 q5
  obtain ⟨q0, q1, q2, q3, q4, q5⟩ := hE.b3
  clear hE
  refine hK.out _ _ ⟨q4, q5, q2, q3⟩ (fun hHeld => ?_)
  clear hK K
  refine norm_ (a' := ?_) ?_ ?_
  rotate_left
  · show Act.put _ (some 47) _ = _
    simp only [Act.put, List.setIfInBounds_toArray, List.set_cons_zero, List.set_cons_succ, i64_w, i32_w]
    rfl
  refine pure_ (i := 7) (N := some 48) (v := ?_) (a' := ?_) #[true, true, true, true, true, true, true, true, true, true, false, false, false, false, false, false] rfl rfl (by kernel_rfl) (fun _ _ _ h => h) (Or.inl ⟨by rfl, ?_⟩) ?_ ?_
  rotate_left
  · intro w'
    go_simp
    with_reducible rfl
  rotate_left
  · simp only [Act.put, List.setIfInBounds_toArray, List.set_cons_zero, List.set_cons_succ, i64_w, i32_w]
    rfl
  refine one_ (i := 10) (N := some 51) #[true, true, true, true, true, true, true, true, true, true, true, false, false, false, false, false] rfl rfl (by kernel_rfl) (by decide) (fun K hK => ?_)
  refine goes_ Tryz.func13 (by kernel_rfl) rfl #[.agg #[.slice A0 s0.length c0, .slice B0 i0.length d0], .agg #[.slice A1 s1.length c1, .slice B1 i1.length d1]] (by rfl) rfl rfl (by simp only [List.map_toArray, List.map_cons, List.map_nil]; try rfl) ?_
  with_reducible refine (alikeE HE.out (by repeat (first | exact List.mem_cons_self | apply List.mem_cons_of_mem)) (by repeat (first | exact List.mem_cons_self | apply List.mem_cons_of_mem)) (by repeat (first | exact List.mem_cons_self | apply List.mem_cons_of_mem)) (by repeat (first | exact List.mem_cons_self | apply List.mem_cons_of_mem)) k0 k1 al).mono ?_
  rintro e w3 ⟨rfl, hE⟩
  refine ⟨_, rfl, ?_⟩
  clear HE
  have HE := Aside0.mk hE
  clear q0 q1 q2 q3 q4 q5
  obtain ⟨q0, q1, q2, q3, q4, q5⟩ := hE.b3
  clear hE
  refine hK.out _ _ ⟨q4, q5, q2, q3⟩ (fun hHeld => ?_)
  clear hK K
  refine norm_ (a' := ?_) ?_ ?_
  rotate_left
  · show Act.put _ (some 51) _ = _
    simp only [Act.put, List.setIfInBounds_toArray, List.set_cons_zero, List.set_cons_succ, i64_w, i32_w]
    rfl
  refine pure_ (i := 11) (N := some 52) (v := ?_) (a' := ?_) #[true, true, true, true, true, true, true, true, true, true, true, true, false, false, false, false] rfl rfl (by kernel_rfl) (fun _ _ _ h => h) (Or.inl ⟨by rfl, ?_⟩) ?_ ?_
  rotate_left
  · intro w'
    go_simp
    with_reducible rfl
  rotate_left
  · simp only [Act.put, List.setIfInBounds_toArray, List.set_cons_zero, List.set_cons_succ, i64_w, i32_w]
    rfl
  refine pure_ (i := 12) (N := some 53) (v := ?_) (a' := ?_) #[true, true, true, true, true, true, true, true, true, true, true, true, true, false, false, false] rfl rfl (by kernel_rfl) (fun _ _ _ h => h) (Or.inl ⟨by rfl, ?_⟩) ?_ ?_
  rotate_left
  · intro w'
    go_simp
    with_reducible rfl
  rotate_left
  · simp only [Act.put, List.setIfInBounds_toArray, List.set_cons_zero, List.set_cons_succ, i64_w, i32_w]
    rfl
  refine one_ (i := 13) (N := some 54) #[true, true, true, true, true, true, true, true, true, true, true, true, true, true, false, false] rfl rfl (by kernel_rfl) (by decide) (fun K hK => ?_)
  refine goes_ Tryz.func11 (by kernel_rfl) rfl #[] (by rfl) rfl rfl (by simp only [List.map_toArray, List.map_cons, List.map_nil]; try rfl) ?_
  with_reducible refine (awakeE HE.out).mono ?_
  rintro e w3 ⟨rfl, hE⟩
  refine ⟨_, rfl, ?_⟩
  clear HE
  have HE := Aside0.mk hE
  clear q0 q1 q2 q3 q4 q5
  obtain ⟨q0, q1, q2, q3, q4, q5⟩ := hE.b3
  clear hE
  refine hK.out _ _ ⟨q4, q5, q2, q3⟩ (fun hHeld => ?_)
  clear hK K
  refine norm_ (a' := ?_) ?_ ?_
  rotate_left
  · show Act.put _ (some 54) _ = _
    simp only [Act.put, List.setIfInBounds_toArray, List.set_cons_zero, List.set_cons_succ, i64_w, i32_w]
    rfl
  refine pure_ (i := 14) (N := some 55) (v := ?_) (a' := ?_) #[true, true, true, true, true, true, true, true, true, true, true, true, true, true, true, false] rfl rfl (by kernel_rfl) (fun _ _ _ h => h) (Or.inl ⟨by rfl, ?_⟩) ?_ ?_
  rotate_left
  · intro w'
    go_simp
    with_reducible rfl
  rotate_left
  · simp only [Act.put, List.setIfInBounds_toArray, List.set_cons_zero, List.set_cons_succ, i64_w, i32_w]
    rfl
  refine pure_ (i := 15) (N := some 6) (v := ?_) (a' := ?_) #[true, true, true, true, true, true, true, true, true, true, true, true, true, true, true, true] rfl rfl (by kernel_rfl) (fun _ _ _ h => h) (Or.inl ⟨by rfl, ?_⟩) ?_ ?_
  rotate_left
  · intro w'
    go_simp
    with_reducible rfl
  rotate_left
  · simp only [Act.put, List.setIfInBounds_toArray, List.set_cons_zero, List.set_cons_succ, i64_w, i32_w]
    rfl
  refine done_ (by kernel_rfl) ?_

  go_wp2
  go_ret
  exact ⟨by first | rfl | simp, HE.out.below⟩
set_option maxHeartbeats 8000000 in
set_option maxRecDepth 100000 in
theorem order_t_f_t (A0 B0 : Option Addr) (c0 d0 : Nat) (s0 i0 : List Int) (A1 B1 : Option Addr) (c1 d1 : Nat) (s1 i1 : List Int) (A2 B2 : Option Addr) (c2 d2 : Nat) (s2 i2 : List Int) (w : World) (hE : LE w [(A0, c0, s0), (B0, d0, i0), (A1, c1, s1), (B1, d1, i1), (A2, c2, s2), (B2, d2, i2)] [] w) (m0 : decide (May s0 i0) = true) (m1 : decide (May s1 i1) = true) (m2 : decide (May s2 i2) = true) (f00 : flowB s0 i0 s0 i0 = true) (f01 : flowB s0 i0 s1 i1 = true) (f12 : flowB s1 i1 s2 i2 = false) (f10 : flowB s1 i1 s0 i0 = true) (k0 : s0.length ≤ 1048576) (k1 : i0.length ≤ 1048576) (al : decide (s0 = s1 ∧ i0 = i1) = true) :
    Calls Tryz.prog 3 #[.agg #[.slice A0 s0.length c0, .slice B0 i0.length d0], .agg #[.slice A1 s1.length c1, .slice B1 i1.length d1], .agg #[.slice A2 s2.length c2, .slice B2 i2.length d2]] w fun e w' => e = .returned (.bool true) ∧ Below w.heap.size w w' := by
  have hu24 := Tryz.underlying24
  have HE := Aside0.mk (((hE.boxed (.slice A0 s0.length c0) (.slice B0 i0.length d0) (w.heap.size) rfl).boxed (.slice A1 s1.length c1) (.slice B1 i1.length d1) (w.heap.size + 1) (by simp)).boxed (.slice A2 s2.length c2) (.slice B2 i2.length d2) (w.heap.size + 1 + 1) (by simp))
  clear hE
  go_enter Tryz.func3, Tryz.ntmps3
  go_wp2_with (first
    | (go_at_call 10; (with_reducible refine (mayE HE.out (by repeat (first | exact List.mem_cons_self | apply List.mem_cons_of_mem)) (by repeat (first | exact List.mem_cons_self | apply List.mem_cons_of_mem)) (by assumption)).mono ?_); rintro e w1 ⟨rfl, hE⟩; clear HE; have HE := Aside0.mk hE; obtain ⟨q0, q1, q2, q3, q4, q5⟩ := hE.b3; clear hE)
    | (go_at_call 12; (with_reducible refine (lawflowsE HE.out (by repeat (first | exact List.mem_cons_self | apply List.mem_cons_of_mem)) (by repeat (first | exact List.mem_cons_self | apply List.mem_cons_of_mem)) (by repeat (first | exact List.mem_cons_self | apply List.mem_cons_of_mem)) (by repeat (first | exact List.mem_cons_self | apply List.mem_cons_of_mem)) (by assumption)).mono ?_); rintro e w1 ⟨rfl, hE⟩; clear HE; have HE := Aside0.mk hE; obtain ⟨q0, q1, q2, q3, q4, q5⟩ := hE.b3; clear hE)
    | (go_at_call 11; (with_reducible refine (awakeE HE.out).mono ?_); rintro e w1 ⟨rfl, hE⟩; clear HE; have HE := Aside0.mk hE; obtain ⟨q0, q1, q2, q3, q4, q5⟩ := hE.b3; clear hE))
  refine start_ (n := 16) (S := fun w' => w'.cell? ⟨w.heap.size, 0, none⟩ = some (.slice A0 s0.length c0) ∧ w'.cell? ⟨w.heap.size, 1, none⟩ = some (.slice B0 i0.length d0) ∧ w'.cell? ⟨w.heap.size + 1, 0, none⟩ = some (.slice A1 s1.length c1) ∧ w'.cell? ⟨w.heap.size + 1, 1, none⟩ = some (.slice B1 i1.length d1)) (ds := []) #[false, false, false, false, false, false, false, false, false, false, false, false, false, false, false, false] (by kernel_rfl) rfl rfl ⟨q4, q5, q2, q3⟩ (fun hHeld => ?_)
  refine take_ (i := 0) (N := some 41) (v := ?_) (a' := ?_) #[true, false, false, false, false, false, false, false, false, false, false, false, false, false, false, false] rfl rfl (by kernel_rfl) (fun _ _ _ h => h) (Or.inl ⟨by rfl, ?_⟩) hHeld ?_ ?_
  rotate_left
  · rintro w' ⟨s0, s1, s2, s3⟩
    go_simp
    with_reducible rfl
  rotate_left
  · simp only [Act.put, List.setIfInBounds_toArray, List.set_cons_zero, List.set_cons_succ, i64_w, i32_w]
    rfl
  refine take_ (i := 1) (N := some 42) (v := ?_) (a' := ?_) #[true, true, false, false, false, false, false, false, false, false, false, false, false, false, false, false] rfl rfl (by kernel_rfl) (fun _ _ _ h => h) (Or.inl ⟨by rfl, ?_⟩) hHeld ?_ ?_
  rotate_left
  · rintro w' ⟨s0, s1, s2, s3⟩
    go_simp
    with_reducible rfl
  rotate_left
  · simp only [Act.put, List.setIfInBounds_toArray, List.set_cons_zero, List.set_cons_succ, i64_w, i32_w]
    rfl
  refine take_ (i := 8) (N := some 49) (v := ?_) (a' := ?_) #[true, true, false, false, false, false, false, false, true, false, false, false, false, false, false, false] rfl rfl (by kernel_rfl) (fun _ _ _ h => h) (Or.inl ⟨by rfl, ?_⟩) hHeld ?_ ?_
  rotate_left
  · rintro w' ⟨s0, s1, s2, s3⟩
    go_simp
    with_reducible rfl
  rotate_left
  · simp only [Act.put, List.setIfInBounds_toArray, List.set_cons_zero, List.set_cons_succ, i64_w, i32_w]
    rfl
  refine take_ (i := 9) (N := some 50) (v := ?_) (a' := ?_) #[true, true, false, false, false, false, false, false, true, true, false, false, false, false, false, false] rfl rfl (by kernel_rfl) (fun _ _ _ h => h) (Or.inl ⟨by rfl, ?_⟩) hHeld ?_ ?_
  rotate_left
  · rintro w' ⟨s0, s1, s2, s3⟩
    go_simp
    with_reducible rfl
  rotate_left
  · simp only [Act.put, List.setIfInBounds_toArray, List.set_cons_zero, List.set_cons_succ, i64_w, i32_w]
    rfl
  refine one_ (i := 2) (N := some 43) #[true, true, true, false, false, false, false, false, true, true, false, false, false, false, false, false] rfl rfl (by kernel_rfl) (by decide) (fun K hK => ?_)
  refine goes_ Tryz.func12 (by kernel_rfl) rfl #[.agg #[.slice A0 s0.length c0, .slice B0 i0.length d0], .agg #[.slice A1 s1.length c1, .slice B1 i1.length d1]] (by rfl) rfl rfl (by simp only [List.map_toArray, List.map_cons, List.map_nil]; try rfl) ?_
  with_reducible refine (lawflowsE HE.out.drew (by repeat (first | exact List.mem_cons_self | apply List.mem_cons_of_mem)) (by repeat (first | exact List.mem_cons_self | apply List.mem_cons_of_mem)) (by repeat (first | exact List.mem_cons_self | apply List.mem_cons_of_mem)) (by repeat (first | exact List.mem_cons_self | apply List.mem_cons_of_mem)) f01).mono ?_
  rintro e w3 ⟨rfl, hE⟩
  refine ⟨_, rfl, ?_⟩
  clear HE
  have HE := Aside0.mk hE
  clear q0 q1 q2 q3 q4 q5
  obtain ⟨q0, q1, q2, q3, q4, q5⟩ := hE.b3
  clear hE
  refine hK.out _ _ ⟨q4, q5, q2, q3⟩ (fun hHeld => ?_)
  clear hK K
  refine norm_ (a' := ?_) ?_ ?_
  rotate_left
  · show Act.put _ (some 43) _ = _
    simp only [Act.put, List.setIfInBounds_toArray, List.set_cons_zero, List.set_cons_succ, i64_w, i32_w]
    rfl
  refine pure_ (i := 3) (N := some 44) (v := ?_) (a' := ?_) #[true, true, true, true, false, false, false, false, true, true, false, false, false, false, false, false] rfl rfl (by kernel_rfl) (fun _ _ _ h => h) (Or.inl ⟨by rfl, ?_⟩) ?_ ?_
  rotate_left
  · intro w'
    go_simp
    with_reducible rfl
  rotate_left
  · simp only [Act.put, List.setIfInBounds_toArray, List.set_cons_zero, List.set_cons_succ, i64_w, i32_w]
    rfl
  refine take_ (i := 4) (N := some 45) (v := ?_) (a' := ?_) #[true, true, true, true, true, false, false, false, true, true, false, false, false, false, false, false] rfl rfl (by kernel_rfl) (fun _ _ _ h => h) (Or.inl ⟨by rfl, ?_⟩) hHeld ?_ ?_
  rotate_left
  · rintro w' ⟨s0, s1, s2, s3⟩
    go_simp
    with_reducible rfl
  rotate_left
  · simp only [Act.put, List.setIfInBounds_toArray, List.set_cons_zero, List.set_cons_succ, i64_w, i32_w]
    rfl
  refine take_ (i := 5) (N := some 46) (v := ?_) (a' := ?_) #[true, true, true, true, true, true, false, false, true, true, false, false, false, false, false, false] rfl rfl (by kernel_rfl) (fun _ _ _ h => h) (Or.inl ⟨by rfl, ?_⟩) hHeld ?_ ?_
  rotate_left
  · rintro w' ⟨s0, s1, s2, s3⟩
    go_simp
    with_reducible rfl
  rotate_left
  · simp only [Act.put, List.setIfInBounds_toArray, List.set_cons_zero, List.set_cons_succ, i64_w, i32_w]
    rfl
  refine one_ (i := 6) (N := some 47) #[true, true, true, true, true, true, true, false, true, true, false, false, false, false, false, false] rfl rfl (by kernel_rfl) (by decide) (fun K hK => ?_)
  refine goes_ Tryz.func12 (by kernel_rfl) rfl #[.agg #[.slice A1 s1.length c1, .slice B1 i1.length d1], .agg #[.slice A0 s0.length c0, .slice B0 i0.length d0]] (by rfl) rfl rfl (by simp only [List.map_toArray, List.map_cons, List.map_nil]; try rfl) ?_
  with_reducible refine (lawflowsE HE.out (by repeat (first | exact List.mem_cons_self | apply List.mem_cons_of_mem)) (by repeat (first | exact List.mem_cons_self | apply List.mem_cons_of_mem)) (by repeat (first | exact List.mem_cons_self | apply List.mem_cons_of_mem)) (by repeat (first | exact List.mem_cons_self | apply List.mem_cons_of_mem)) f10).mono ?_
  rintro e w3 ⟨rfl, hE⟩
  refine ⟨_, rfl, ?_⟩
  clear HE
  have HE := Aside0.mk hE
  clear q0 q1 q2 q3 q4 q5
  obtain ⟨q0, q1, q2, q3, q4, q5⟩ := hE.b3
  clear hE
  refine hK.out _ _ ⟨q4, q5, q2, q3⟩ (fun hHeld => ?_)
  clear hK K
  refine norm_ (a' := ?_) ?_ ?_
  rotate_left
  · show Act.put _ (some 47) _ = _
    simp only [Act.put, List.setIfInBounds_toArray, List.set_cons_zero, List.set_cons_succ, i64_w, i32_w]
    rfl
  refine pure_ (i := 7) (N := some 48) (v := ?_) (a' := ?_) #[true, true, true, true, true, true, true, true, true, true, false, false, false, false, false, false] rfl rfl (by kernel_rfl) (fun _ _ _ h => h) (Or.inl ⟨by rfl, ?_⟩) ?_ ?_
  rotate_left
  · intro w'
    go_simp
    with_reducible rfl
  rotate_left
  · simp only [Act.put, List.setIfInBounds_toArray, List.set_cons_zero, List.set_cons_succ, i64_w, i32_w]
    rfl
  refine one_ (i := 10) (N := some 51) #[true, true, true, true, true, true, true, true, true, true, true, false, false, false, false, false] rfl rfl (by kernel_rfl) (by decide) (fun K hK => ?_)
  refine goes_ Tryz.func13 (by kernel_rfl) rfl #[.agg #[.slice A0 s0.length c0, .slice B0 i0.length d0], .agg #[.slice A1 s1.length c1, .slice B1 i1.length d1]] (by rfl) rfl rfl (by simp only [List.map_toArray, List.map_cons, List.map_nil]; try rfl) ?_
  with_reducible refine (alikeE HE.out (by repeat (first | exact List.mem_cons_self | apply List.mem_cons_of_mem)) (by repeat (first | exact List.mem_cons_self | apply List.mem_cons_of_mem)) (by repeat (first | exact List.mem_cons_self | apply List.mem_cons_of_mem)) (by repeat (first | exact List.mem_cons_self | apply List.mem_cons_of_mem)) k0 k1 al).mono ?_
  rintro e w3 ⟨rfl, hE⟩
  refine ⟨_, rfl, ?_⟩
  clear HE
  have HE := Aside0.mk hE
  clear q0 q1 q2 q3 q4 q5
  obtain ⟨q0, q1, q2, q3, q4, q5⟩ := hE.b3
  clear hE
  refine hK.out _ _ ⟨q4, q5, q2, q3⟩ (fun hHeld => ?_)
  clear hK K
  refine norm_ (a' := ?_) ?_ ?_
  rotate_left
  · show Act.put _ (some 51) _ = _
    simp only [Act.put, List.setIfInBounds_toArray, List.set_cons_zero, List.set_cons_succ, i64_w, i32_w]
    rfl
  refine pure_ (i := 11) (N := some 52) (v := ?_) (a' := ?_) #[true, true, true, true, true, true, true, true, true, true, true, true, false, false, false, false] rfl rfl (by kernel_rfl) (fun _ _ _ h => h) (Or.inl ⟨by rfl, ?_⟩) ?_ ?_
  rotate_left
  · intro w'
    go_simp
    with_reducible rfl
  rotate_left
  · simp only [Act.put, List.setIfInBounds_toArray, List.set_cons_zero, List.set_cons_succ, i64_w, i32_w]
    rfl
  refine pure_ (i := 12) (N := some 53) (v := ?_) (a' := ?_) #[true, true, true, true, true, true, true, true, true, true, true, true, true, false, false, false] rfl rfl (by kernel_rfl) (fun _ _ _ h => h) (Or.inl ⟨by rfl, ?_⟩) ?_ ?_
  rotate_left
  · intro w'
    go_simp
    with_reducible rfl
  rotate_left
  · simp only [Act.put, List.setIfInBounds_toArray, List.set_cons_zero, List.set_cons_succ, i64_w, i32_w]
    rfl
  refine one_ (i := 13) (N := some 54) #[true, true, true, true, true, true, true, true, true, true, true, true, true, true, false, false] rfl rfl (by kernel_rfl) (by decide) (fun K hK => ?_)
  refine goes_ Tryz.func11 (by kernel_rfl) rfl #[] (by rfl) rfl rfl (by simp only [List.map_toArray, List.map_cons, List.map_nil]; try rfl) ?_
  with_reducible refine (awakeE HE.out).mono ?_
  rintro e w3 ⟨rfl, hE⟩
  refine ⟨_, rfl, ?_⟩
  clear HE
  have HE := Aside0.mk hE
  clear q0 q1 q2 q3 q4 q5
  obtain ⟨q0, q1, q2, q3, q4, q5⟩ := hE.b3
  clear hE
  refine hK.out _ _ ⟨q4, q5, q2, q3⟩ (fun hHeld => ?_)
  clear hK K
  refine norm_ (a' := ?_) ?_ ?_
  rotate_left
  · show Act.put _ (some 54) _ = _
    simp only [Act.put, List.setIfInBounds_toArray, List.set_cons_zero, List.set_cons_succ, i64_w, i32_w]
    rfl
  refine pure_ (i := 14) (N := some 55) (v := ?_) (a' := ?_) #[true, true, true, true, true, true, true, true, true, true, true, true, true, true, true, false] rfl rfl (by kernel_rfl) (fun _ _ _ h => h) (Or.inl ⟨by rfl, ?_⟩) ?_ ?_
  rotate_left
  · intro w'
    go_simp
    with_reducible rfl
  rotate_left
  · simp only [Act.put, List.setIfInBounds_toArray, List.set_cons_zero, List.set_cons_succ, i64_w, i32_w]
    rfl
  refine pure_ (i := 15) (N := some 6) (v := ?_) (a' := ?_) #[true, true, true, true, true, true, true, true, true, true, true, true, true, true, true, true] rfl rfl (by kernel_rfl) (fun _ _ _ h => h) (Or.inl ⟨by rfl, ?_⟩) ?_ ?_
  rotate_left
  · intro w'
    go_simp
    with_reducible rfl
  rotate_left
  · simp only [Act.put, List.setIfInBounds_toArray, List.set_cons_zero, List.set_cons_succ, i64_w, i32_w]
    rfl
  refine done_ (by kernel_rfl) ?_

  go_wp2
  go_ret
  exact ⟨by first | rfl | simp, HE.out.below⟩
set_option maxHeartbeats 8000000 in
set_option maxRecDepth 100000 in
theorem order_t_f_f (A0 B0 : Option Addr) (c0 d0 : Nat) (s0 i0 : List Int) (A1 B1 : Option Addr) (c1 d1 : Nat) (s1 i1 : List Int) (A2 B2 : Option Addr) (c2 d2 : Nat) (s2 i2 : List Int) (w : World) (hE : LE w [(A0, c0, s0), (B0, d0, i0), (A1, c1, s1), (B1, d1, i1), (A2, c2, s2), (B2, d2, i2)] [] w) (m0 : decide (May s0 i0) = true) (m1 : decide (May s1 i1) = true) (m2 : decide (May s2 i2) = true) (f00 : flowB s0 i0 s0 i0 = true) (f01 : flowB s0 i0 s1 i1 = true) (f12 : flowB s1 i1 s2 i2 = false) (f10 : flowB s1 i1 s0 i0 = false) (k0 : s0.length ≤ 1048576) (k1 : i0.length ≤ 1048576) (al : decide (s0 = s1 ∧ i0 = i1) = false) :
    Calls Tryz.prog 3 #[.agg #[.slice A0 s0.length c0, .slice B0 i0.length d0], .agg #[.slice A1 s1.length c1, .slice B1 i1.length d1], .agg #[.slice A2 s2.length c2, .slice B2 i2.length d2]] w fun e w' => e = .returned (.bool true) ∧ Below w.heap.size w w' := by
  have hu24 := Tryz.underlying24
  have HE := Aside0.mk (((hE.boxed (.slice A0 s0.length c0) (.slice B0 i0.length d0) (w.heap.size) rfl).boxed (.slice A1 s1.length c1) (.slice B1 i1.length d1) (w.heap.size + 1) (by simp)).boxed (.slice A2 s2.length c2) (.slice B2 i2.length d2) (w.heap.size + 1 + 1) (by simp))
  clear hE
  go_enter Tryz.func3, Tryz.ntmps3
  go_wp2_with (first
    | (go_at_call 10; (with_reducible refine (mayE HE.out (by repeat (first | exact List.mem_cons_self | apply List.mem_cons_of_mem)) (by repeat (first | exact List.mem_cons_self | apply List.mem_cons_of_mem)) (by assumption)).mono ?_); rintro e w1 ⟨rfl, hE⟩; clear HE; have HE := Aside0.mk hE; obtain ⟨q0, q1, q2, q3, q4, q5⟩ := hE.b3; clear hE)
    | (go_at_call 12; (with_reducible refine (lawflowsE HE.out (by repeat (first | exact List.mem_cons_self | apply List.mem_cons_of_mem)) (by repeat (first | exact List.mem_cons_self | apply List.mem_cons_of_mem)) (by repeat (first | exact List.mem_cons_self | apply List.mem_cons_of_mem)) (by repeat (first | exact List.mem_cons_self | apply List.mem_cons_of_mem)) (by assumption)).mono ?_); rintro e w1 ⟨rfl, hE⟩; clear HE; have HE := Aside0.mk hE; obtain ⟨q0, q1, q2, q3, q4, q5⟩ := hE.b3; clear hE)
    | (go_at_call 11; (with_reducible refine (awakeE HE.out).mono ?_); rintro e w1 ⟨rfl, hE⟩; clear HE; have HE := Aside0.mk hE; obtain ⟨q0, q1, q2, q3, q4, q5⟩ := hE.b3; clear hE))
  refine start_ (n := 16) (S := fun w' => w'.cell? ⟨w.heap.size, 0, none⟩ = some (.slice A0 s0.length c0) ∧ w'.cell? ⟨w.heap.size, 1, none⟩ = some (.slice B0 i0.length d0) ∧ w'.cell? ⟨w.heap.size + 1, 0, none⟩ = some (.slice A1 s1.length c1) ∧ w'.cell? ⟨w.heap.size + 1, 1, none⟩ = some (.slice B1 i1.length d1)) (ds := []) #[false, false, false, false, false, false, false, false, false, false, false, false, false, false, false, false] (by kernel_rfl) rfl rfl ⟨q4, q5, q2, q3⟩ (fun hHeld => ?_)
  refine take_ (i := 0) (N := some 41) (v := ?_) (a' := ?_) #[true, false, false, false, false, false, false, false, false, false, false, false, false, false, false, false] rfl rfl (by kernel_rfl) (fun _ _ _ h => h) (Or.inl ⟨by rfl, ?_⟩) hHeld ?_ ?_
  rotate_left
  · rintro w' ⟨s0, s1, s2, s3⟩
    go_simp
    with_reducible rfl
  rotate_left
  · simp only [Act.put, List.setIfInBounds_toArray, List.set_cons_zero, List.set_cons_succ, i64_w, i32_w]
    rfl
  refine take_ (i := 1) (N := some 42) (v := ?_) (a' := ?_) #[true, true, false, false, false, false, false, false, false, false, false, false, false, false, false, false] rfl rfl (by kernel_rfl) (fun _ _ _ h => h) (Or.inl ⟨by rfl, ?_⟩) hHeld ?_ ?_
  rotate_left
  · rintro w' ⟨s0, s1, s2, s3⟩
    go_simp
    with_reducible rfl
  rotate_left
  · simp only [Act.put, List.setIfInBounds_toArray, List.set_cons_zero, List.set_cons_succ, i64_w, i32_w]
    rfl
  refine take_ (i := 8) (N := some 49) (v := ?_) (a' := ?_) #[true, true, false, false, false, false, false, false, true, false, false, false, false, false, false, false] rfl rfl (by kernel_rfl) (fun _ _ _ h => h) (Or.inl ⟨by rfl, ?_⟩) hHeld ?_ ?_
  rotate_left
  · rintro w' ⟨s0, s1, s2, s3⟩
    go_simp
    with_reducible rfl
  rotate_left
  · simp only [Act.put, List.setIfInBounds_toArray, List.set_cons_zero, List.set_cons_succ, i64_w, i32_w]
    rfl
  refine take_ (i := 9) (N := some 50) (v := ?_) (a' := ?_) #[true, true, false, false, false, false, false, false, true, true, false, false, false, false, false, false] rfl rfl (by kernel_rfl) (fun _ _ _ h => h) (Or.inl ⟨by rfl, ?_⟩) hHeld ?_ ?_
  rotate_left
  · rintro w' ⟨s0, s1, s2, s3⟩
    go_simp
    with_reducible rfl
  rotate_left
  · simp only [Act.put, List.setIfInBounds_toArray, List.set_cons_zero, List.set_cons_succ, i64_w, i32_w]
    rfl
  refine one_ (i := 2) (N := some 43) #[true, true, true, false, false, false, false, false, true, true, false, false, false, false, false, false] rfl rfl (by kernel_rfl) (by decide) (fun K hK => ?_)
  refine goes_ Tryz.func12 (by kernel_rfl) rfl #[.agg #[.slice A0 s0.length c0, .slice B0 i0.length d0], .agg #[.slice A1 s1.length c1, .slice B1 i1.length d1]] (by rfl) rfl rfl (by simp only [List.map_toArray, List.map_cons, List.map_nil]; try rfl) ?_
  with_reducible refine (lawflowsE HE.out.drew (by repeat (first | exact List.mem_cons_self | apply List.mem_cons_of_mem)) (by repeat (first | exact List.mem_cons_self | apply List.mem_cons_of_mem)) (by repeat (first | exact List.mem_cons_self | apply List.mem_cons_of_mem)) (by repeat (first | exact List.mem_cons_self | apply List.mem_cons_of_mem)) f01).mono ?_
  rintro e w3 ⟨rfl, hE⟩
  refine ⟨_, rfl, ?_⟩
  clear HE
  have HE := Aside0.mk hE
  clear q0 q1 q2 q3 q4 q5
  obtain ⟨q0, q1, q2, q3, q4, q5⟩ := hE.b3
  clear hE
  refine hK.out _ _ ⟨q4, q5, q2, q3⟩ (fun hHeld => ?_)
  clear hK K
  refine norm_ (a' := ?_) ?_ ?_
  rotate_left
  · show Act.put _ (some 43) _ = _
    simp only [Act.put, List.setIfInBounds_toArray, List.set_cons_zero, List.set_cons_succ, i64_w, i32_w]
    rfl
  refine pure_ (i := 3) (N := some 44) (v := ?_) (a' := ?_) #[true, true, true, true, false, false, false, false, true, true, false, false, false, false, false, false] rfl rfl (by kernel_rfl) (fun _ _ _ h => h) (Or.inl ⟨by rfl, ?_⟩) ?_ ?_
  rotate_left
  · intro w'
    go_simp
    with_reducible rfl
  rotate_left
  · simp only [Act.put, List.setIfInBounds_toArray, List.set_cons_zero, List.set_cons_succ, i64_w, i32_w]
    rfl
  refine take_ (i := 4) (N := some 45) (v := ?_) (a' := ?_) #[true, true, true, true, true, false, false, false, true, true, false, false, false, false, false, false] rfl rfl (by kernel_rfl) (fun _ _ _ h => h) (Or.inl ⟨by rfl, ?_⟩) hHeld ?_ ?_
  rotate_left
  · rintro w' ⟨s0, s1, s2, s3⟩
    go_simp
    with_reducible rfl
  rotate_left
  · simp only [Act.put, List.setIfInBounds_toArray, List.set_cons_zero, List.set_cons_succ, i64_w, i32_w]
    rfl
  refine take_ (i := 5) (N := some 46) (v := ?_) (a' := ?_) #[true, true, true, true, true, true, false, false, true, true, false, false, false, false, false, false] rfl rfl (by kernel_rfl) (fun _ _ _ h => h) (Or.inl ⟨by rfl, ?_⟩) hHeld ?_ ?_
  rotate_left
  · rintro w' ⟨s0, s1, s2, s3⟩
    go_simp
    with_reducible rfl
  rotate_left
  · simp only [Act.put, List.setIfInBounds_toArray, List.set_cons_zero, List.set_cons_succ, i64_w, i32_w]
    rfl
  refine one_ (i := 6) (N := some 47) #[true, true, true, true, true, true, true, false, true, true, false, false, false, false, false, false] rfl rfl (by kernel_rfl) (by decide) (fun K hK => ?_)
  refine goes_ Tryz.func12 (by kernel_rfl) rfl #[.agg #[.slice A1 s1.length c1, .slice B1 i1.length d1], .agg #[.slice A0 s0.length c0, .slice B0 i0.length d0]] (by rfl) rfl rfl (by simp only [List.map_toArray, List.map_cons, List.map_nil]; try rfl) ?_
  with_reducible refine (lawflowsE HE.out (by repeat (first | exact List.mem_cons_self | apply List.mem_cons_of_mem)) (by repeat (first | exact List.mem_cons_self | apply List.mem_cons_of_mem)) (by repeat (first | exact List.mem_cons_self | apply List.mem_cons_of_mem)) (by repeat (first | exact List.mem_cons_self | apply List.mem_cons_of_mem)) f10).mono ?_
  rintro e w3 ⟨rfl, hE⟩
  refine ⟨_, rfl, ?_⟩
  clear HE
  have HE := Aside0.mk hE
  clear q0 q1 q2 q3 q4 q5
  obtain ⟨q0, q1, q2, q3, q4, q5⟩ := hE.b3
  clear hE
  refine hK.out _ _ ⟨q4, q5, q2, q3⟩ (fun hHeld => ?_)
  clear hK K
  refine norm_ (a' := ?_) ?_ ?_
  rotate_left
  · show Act.put _ (some 47) _ = _
    simp only [Act.put, List.setIfInBounds_toArray, List.set_cons_zero, List.set_cons_succ, i64_w, i32_w]
    rfl
  refine pure_ (i := 7) (N := some 48) (v := ?_) (a' := ?_) #[true, true, true, true, true, true, true, true, true, true, false, false, false, false, false, false] rfl rfl (by kernel_rfl) (fun _ _ _ h => h) (Or.inl ⟨by rfl, ?_⟩) ?_ ?_
  rotate_left
  · intro w'
    go_simp
    with_reducible rfl
  rotate_left
  · simp only [Act.put, List.setIfInBounds_toArray, List.set_cons_zero, List.set_cons_succ, i64_w, i32_w]
    rfl
  refine one_ (i := 10) (N := some 51) #[true, true, true, true, true, true, true, true, true, true, true, false, false, false, false, false] rfl rfl (by kernel_rfl) (by decide) (fun K hK => ?_)
  refine goes_ Tryz.func13 (by kernel_rfl) rfl #[.agg #[.slice A0 s0.length c0, .slice B0 i0.length d0], .agg #[.slice A1 s1.length c1, .slice B1 i1.length d1]] (by rfl) rfl rfl (by simp only [List.map_toArray, List.map_cons, List.map_nil]; try rfl) ?_
  with_reducible refine (alikeE HE.out (by repeat (first | exact List.mem_cons_self | apply List.mem_cons_of_mem)) (by repeat (first | exact List.mem_cons_self | apply List.mem_cons_of_mem)) (by repeat (first | exact List.mem_cons_self | apply List.mem_cons_of_mem)) (by repeat (first | exact List.mem_cons_self | apply List.mem_cons_of_mem)) k0 k1 al).mono ?_
  rintro e w3 ⟨rfl, hE⟩
  refine ⟨_, rfl, ?_⟩
  clear HE
  have HE := Aside0.mk hE
  clear q0 q1 q2 q3 q4 q5
  obtain ⟨q0, q1, q2, q3, q4, q5⟩ := hE.b3
  clear hE
  refine hK.out _ _ ⟨q4, q5, q2, q3⟩ (fun hHeld => ?_)
  clear hK K
  refine norm_ (a' := ?_) ?_ ?_
  rotate_left
  · show Act.put _ (some 51) _ = _
    simp only [Act.put, List.setIfInBounds_toArray, List.set_cons_zero, List.set_cons_succ, i64_w, i32_w]
    rfl
  refine pure_ (i := 11) (N := some 52) (v := ?_) (a' := ?_) #[true, true, true, true, true, true, true, true, true, true, true, true, false, false, false, false] rfl rfl (by kernel_rfl) (fun _ _ _ h => h) (Or.inl ⟨by rfl, ?_⟩) ?_ ?_
  rotate_left
  · intro w'
    go_simp
    with_reducible rfl
  rotate_left
  · simp only [Act.put, List.setIfInBounds_toArray, List.set_cons_zero, List.set_cons_succ, i64_w, i32_w]
    rfl
  refine pure_ (i := 12) (N := some 53) (v := ?_) (a' := ?_) #[true, true, true, true, true, true, true, true, true, true, true, true, true, false, false, false] rfl rfl (by kernel_rfl) (fun _ _ _ h => h) (Or.inl ⟨by rfl, ?_⟩) ?_ ?_
  rotate_left
  · intro w'
    go_simp
    with_reducible rfl
  rotate_left
  · simp only [Act.put, List.setIfInBounds_toArray, List.set_cons_zero, List.set_cons_succ, i64_w, i32_w]
    rfl
  refine one_ (i := 13) (N := some 54) #[true, true, true, true, true, true, true, true, true, true, true, true, true, true, false, false] rfl rfl (by kernel_rfl) (by decide) (fun K hK => ?_)
  refine goes_ Tryz.func11 (by kernel_rfl) rfl #[] (by rfl) rfl rfl (by simp only [List.map_toArray, List.map_cons, List.map_nil]; try rfl) ?_
  with_reducible refine (awakeE HE.out).mono ?_
  rintro e w3 ⟨rfl, hE⟩
  refine ⟨_, rfl, ?_⟩
  clear HE
  have HE := Aside0.mk hE
  clear q0 q1 q2 q3 q4 q5
  obtain ⟨q0, q1, q2, q3, q4, q5⟩ := hE.b3
  clear hE
  refine hK.out _ _ ⟨q4, q5, q2, q3⟩ (fun hHeld => ?_)
  clear hK K
  refine norm_ (a' := ?_) ?_ ?_
  rotate_left
  · show Act.put _ (some 54) _ = _
    simp only [Act.put, List.setIfInBounds_toArray, List.set_cons_zero, List.set_cons_succ, i64_w, i32_w]
    rfl
  refine pure_ (i := 14) (N := some 55) (v := ?_) (a' := ?_) #[true, true, true, true, true, true, true, true, true, true, true, true, true, true, true, false] rfl rfl (by kernel_rfl) (fun _ _ _ h => h) (Or.inl ⟨by rfl, ?_⟩) ?_ ?_
  rotate_left
  · intro w'
    go_simp
    with_reducible rfl
  rotate_left
  · simp only [Act.put, List.setIfInBounds_toArray, List.set_cons_zero, List.set_cons_succ, i64_w, i32_w]
    rfl
  refine pure_ (i := 15) (N := some 6) (v := ?_) (a' := ?_) #[true, true, true, true, true, true, true, true, true, true, true, true, true, true, true, true] rfl rfl (by kernel_rfl) (fun _ _ _ h => h) (Or.inl ⟨by rfl, ?_⟩) ?_ ?_
  rotate_left
  · intro w'
    go_simp
    with_reducible rfl
  rotate_left
  · simp only [Act.put, List.setIfInBounds_toArray, List.set_cons_zero, List.set_cons_succ, i64_w, i32_w]
    rfl
  refine done_ (by kernel_rfl) ?_

  go_wp2
  go_ret
  exact ⟨by first | rfl | simp, HE.out.below⟩
theorem labelOrder_calls (A0 B0 : Option Addr) (c0 d0 : Nat) (s0 i0 : List Int) (A1 B1 : Option Addr) (c1 d1 : Nat) (s1 i1 : List Int) (A2 B2 : Option Addr) (c2 d2 : Nat) (s2 i2 : List Int) (w : World) (hE : LE w [(A0, c0, s0), (B0, d0, i0), (A1, c1, s1), (B1, d1, i1), (A2, c2, s2), (B2, d2, i2)] [] w) (k0 : s0.length ≤ 1048576) (k1 : i0.length ≤ 1048576) :
    Calls Tryz.prog 3 #[.agg #[.slice A0 s0.length c0, .slice B0 i0.length d0], .agg #[.slice A1 s1.length c1, .slice B1 i1.length d1], .agg #[.slice A2 s2.length c2, .slice B2 i2.length d2]] w fun e w' => e = .returned (.bool true) ∧ Below w.heap.size w w' := by
  by_cases h0 : May s0 i0
  · by_cases h1 : May s1 i1
    · by_cases h2 : May s2 i2
      · have fb := flow_both h0 h1
        cases e : flowB s0 i0 s1 i1 with
        | false =>
          rw [e, Bool.false_and] at fb
          exact order_f_x_x A0 B0 c0 d0 s0 i0 A1 B1 c1 d1 s1 i1 A2 B2 c2 d2 s2 i2 w hE (decide_eq_true h0) (decide_eq_true h1) (decide_eq_true h2) (flow_refl h0) e k0 k1 fb.symm
        | true =>
          rw [e, Bool.true_and] at fb
          cases e2 : flowB s1 i1 s2 i2 with
          | true =>
            cases e3 : flowB s1 i1 s0 i0 with
            | true => exact order_t_t_t A0 B0 c0 d0 s0 i0 A1 B1 c1 d1 s1 i1 A2 B2 c2 d2 s2 i2 w hE (decide_eq_true h0) (decide_eq_true h1) (decide_eq_true h2) (flow_refl h0) e e2 (flow_trans h0 h1 h2 e e2) e3 k0 k1 (fb.symm.trans e3)
            | false => exact order_t_t_f A0 B0 c0 d0 s0 i0 A1 B1 c1 d1 s1 i1 A2 B2 c2 d2 s2 i2 w hE (decide_eq_true h0) (decide_eq_true h1) (decide_eq_true h2) (flow_refl h0) e e2 (flow_trans h0 h1 h2 e e2) e3 k0 k1 (fb.symm.trans e3)
          | false =>
            cases e3 : flowB s1 i1 s0 i0 with
            | true => exact order_t_f_t A0 B0 c0 d0 s0 i0 A1 B1 c1 d1 s1 i1 A2 B2 c2 d2 s2 i2 w hE (decide_eq_true h0) (decide_eq_true h1) (decide_eq_true h2) (flow_refl h0) e e2 e3 k0 k1 (fb.symm.trans e3)
            | false => exact order_t_f_f A0 B0 c0 d0 s0 i0 A1 B1 c1 d1 s1 i1 A2 B2 c2 d2 s2 i2 w hE (decide_eq_true h0) (decide_eq_true h1) (decide_eq_true h2) (flow_refl h0) e e2 e3 k0 k1 (fb.symm.trans e3)
      · exact order_not2 A0 B0 c0 d0 s0 i0 A1 B1 c1 d1 s1 i1 A2 B2 c2 d2 s2 i2 w hE (decide_eq_true h0) (decide_eq_true h1) (decide_eq_false h2)
    · exact order_not1 A0 B0 c0 d0 s0 i0 A1 B1 c1 d1 s1 i1 A2 B2 c2 d2 s2 i2 w hE (decide_eq_true h0) (decide_eq_false h1)
  · exact order_not0 A0 B0 c0 d0 s0 i0 A1 B1 c1 d1 s1 i1 A2 B2 c2 d2 s2 i2 w hE (decide_eq_false h0)
end Go.Proofs.YtdmgcbelnnggbaaGreatDoor.LabW
