/- The law VmParts, walked: its ways. -/
import Derived.Test.YtbdamgopggeikaaVmPlain
namespace Go.Proofs.Ytbdamgopggeikaa.VmW
open Go.RowKit Go.Proofs.YtbdamgopggeikaaW.PrintWords Go.Proofs.YtbdamgopggeikaaW.PrintMore Go.Proofs.YtbdamgopggeikaaW.PrintLast Go.Proofs.Ytbdamgopggeikaa.Pvm
set_option linter.unusedVariables false
set_option linter.unusedSimpArgs false
theorem stEq_refl (s : St) : stEq s s := by unfold stEq; exact ⟨rfl, rfl, rfl⟩
theorem runAll_ok {code : List In} {s : St} {m : Mem} {F : Int} (hx : (chkP code).1 = 0) (hm : mayP s code.length) (h0 : 0 ≤ F) (h1 : F ≤ 1048576) {r : St × Mem × Int × Int × Int} (hr : runP memK code F.toNat 0 s m = r) : runAll code s m F = ⟨r.1, r.2.1, r.2.2.1, r.2.2.2.1, r.2.2.2.2, 0⟩ := by
  subst hr
  unfold runAll
  rw [if_neg (not_not_intro hx), if_neg]
  rintro (h | h | h)
  · omega
  · omega
  · exact h hm
set_option maxHeartbeats 8000000 in
set_option maxRecDepth 100000 in
theorem parts_la (A0 : Option Addr) (c0 : Nat) (code : List In) (pc : Int) (A2 : Option Addr) (c2 : Nat) (st : List Int) (A3 : Option Addr) (c3 : Nat) (ca : List Int) (mem : ByteArray) (a b : Int) (w : World) (hr0 : Kd.C kIn w A0 code.length code) (hc0 : code.length ≤ c0) (hr2 : Kd.C (Kd.int .i64) w A2 st.length st) (hc2 : st.length ≤ c2) (hr3 : Kd.C (Kd.int .i64) w A3 ca.length ca) (hc3 : ca.length ≤ c3) (hmem : mem.size ≤ 140737488355328) (hf : a < 0) :
    Calls Try.prog 4 #[.agg #[.slice A0 code.length c0, .int .i64 pc, .slice A2 st.length c2, .slice A3 ca.length c3, .string mem], .int .i64 a, .int .i64 b] w (BPost w true) := by
  have hu := Try.underlying25
  have hu2 := Try.underlying33
  have hu3 := Try.underlying27
  have HE0 := Aside0.mk ((LE.start w).boxed #[.slice A0 code.length c0, .int .i64 pc, .slice A2 st.length c2, .slice A3 ca.length c3, .string mem] 27 _ rfl (by decide))
  have H0 := Aside0.mk hr0
  have H2 := Aside0.mk hr2
  have H3 := Aside0.mk hr3
  have HC := Aside0.mk (And.intro hc0 (And.intro hc2 (And.intro hc3 hmem)))
  clear hr0 hr2 hr3 hc0 hc2 hc3 hmem
  have hu4 := Try.underlying43
  have t00 : decide (a < 0) = true := decide_eq_true (by omega)
  clear hf
  go_enter Try.func4, Try.ntmps4
  go_wp2_with (go_at_call 10; (with_reducible refine (awakeE HE0.out).mono ?_); rintro e w9 ⟨rfl, hE⟩; have HE9 := Aside0.mk hE; clear hE)
  go_ret
  exact ⟨rfl, HE9.out.below⟩
set_option maxHeartbeats 8000000 in
set_option maxRecDepth 100000 in
theorem parts_lb (A0 : Option Addr) (c0 : Nat) (code : List In) (pc : Int) (A2 : Option Addr) (c2 : Nat) (st : List Int) (A3 : Option Addr) (c3 : Nat) (ca : List Int) (mem : ByteArray) (a b : Int) (w : World) (hr0 : Kd.C kIn w A0 code.length code) (hc0 : code.length ≤ c0) (hr2 : Kd.C (Kd.int .i64) w A2 st.length st) (hc2 : st.length ≤ c2) (hr3 : Kd.C (Kd.int .i64) w A3 ca.length ca) (hc3 : ca.length ≤ c3) (hmem : mem.size ≤ 140737488355328) (hf : 0 ≤ a ∧ b < 0) :
    Calls Try.prog 4 #[.agg #[.slice A0 code.length c0, .int .i64 pc, .slice A2 st.length c2, .slice A3 ca.length c3, .string mem], .int .i64 a, .int .i64 b] w (BPost w true) := by
  have hu := Try.underlying25
  have hu2 := Try.underlying33
  have hu3 := Try.underlying27
  have HE0 := Aside0.mk ((LE.start w).boxed #[.slice A0 code.length c0, .int .i64 pc, .slice A2 st.length c2, .slice A3 ca.length c3, .string mem] 27 _ rfl (by decide))
  have H0 := Aside0.mk hr0
  have H2 := Aside0.mk hr2
  have H3 := Aside0.mk hr3
  have HC := Aside0.mk (And.intro hc0 (And.intro hc2 (And.intro hc3 hmem)))
  clear hr0 hr2 hr3 hc0 hc2 hc3 hmem
  have hu4 := Try.underlying43
  have t00 : decide (a < 0) = false := decide_eq_false (by omega)
  have t10 : decide (b < 0) = true := decide_eq_true (by omega)
  clear hf
  go_enter Try.func4, Try.ntmps4
  go_wp2_with (go_at_call 10; (with_reducible refine (awakeE HE0.out).mono ?_); rintro e w9 ⟨rfl, hE⟩; have HE9 := Aside0.mk hE; clear hE)
  go_ret
  exact ⟨rfl, HE9.out.below⟩
set_option maxHeartbeats 8000000 in
set_option maxRecDepth 100000 in
theorem parts_ha (A0 : Option Addr) (c0 : Nat) (code : List In) (pc : Int) (A2 : Option Addr) (c2 : Nat) (st : List Int) (A3 : Option Addr) (c3 : Nat) (ca : List Int) (mem : ByteArray) (a b : Int) (w : World) (hr0 : Kd.C kIn w A0 code.length code) (hc0 : code.length ≤ c0) (hr2 : Kd.C (Kd.int .i64) w A2 st.length st) (hc2 : st.length ≤ c2) (hr3 : Kd.C (Kd.int .i64) w A3 ca.length ca) (hc3 : ca.length ≤ c3) (hmem : mem.size ≤ 140737488355328) (hf : 0 ≤ a ∧ 0 ≤ b ∧ 2000 < a) :
    Calls Try.prog 4 #[.agg #[.slice A0 code.length c0, .int .i64 pc, .slice A2 st.length c2, .slice A3 ca.length c3, .string mem], .int .i64 a, .int .i64 b] w (BPost w true) := by
  have hu := Try.underlying25
  have hu2 := Try.underlying33
  have hu3 := Try.underlying27
  have HE0 := Aside0.mk ((LE.start w).boxed #[.slice A0 code.length c0, .int .i64 pc, .slice A2 st.length c2, .slice A3 ca.length c3, .string mem] 27 _ rfl (by decide))
  have H0 := Aside0.mk hr0
  have H2 := Aside0.mk hr2
  have H3 := Aside0.mk hr3
  have HC := Aside0.mk (And.intro hc0 (And.intro hc2 (And.intro hc3 hmem)))
  clear hr0 hr2 hr3 hc0 hc2 hc3 hmem
  have hu4 := Try.underlying43
  have t00 : decide (a < 0) = false := decide_eq_false (by omega)
  have t10 : decide (b < 0) = false := decide_eq_false (by omega)
  have t20 : decide (a > 2000) = true := decide_eq_true (by omega)
  have t21 : decide (2000 < a) = true := decide_eq_true (by omega)
  clear hf
  go_enter Try.func4, Try.ntmps4
  go_wp2_with (go_at_call 10; (with_reducible refine (awakeE HE0.out).mono ?_); rintro e w9 ⟨rfl, hE⟩; have HE9 := Aside0.mk hE; clear hE)
  go_ret
  exact ⟨rfl, HE9.out.below⟩
set_option maxHeartbeats 8000000 in
set_option maxRecDepth 100000 in
theorem parts_hb (A0 : Option Addr) (c0 : Nat) (code : List In) (pc : Int) (A2 : Option Addr) (c2 : Nat) (st : List Int) (A3 : Option Addr) (c3 : Nat) (ca : List Int) (mem : ByteArray) (a b : Int) (w : World) (hr0 : Kd.C kIn w A0 code.length code) (hc0 : code.length ≤ c0) (hr2 : Kd.C (Kd.int .i64) w A2 st.length st) (hc2 : st.length ≤ c2) (hr3 : Kd.C (Kd.int .i64) w A3 ca.length ca) (hc3 : ca.length ≤ c3) (hmem : mem.size ≤ 140737488355328) (hf : 0 ≤ a ∧ 0 ≤ b ∧ a ≤ 2000 ∧ 2000 < b) :
    Calls Try.prog 4 #[.agg #[.slice A0 code.length c0, .int .i64 pc, .slice A2 st.length c2, .slice A3 ca.length c3, .string mem], .int .i64 a, .int .i64 b] w (BPost w true) := by
  have hu := Try.underlying25
  have hu2 := Try.underlying33
  have hu3 := Try.underlying27
  have HE0 := Aside0.mk ((LE.start w).boxed #[.slice A0 code.length c0, .int .i64 pc, .slice A2 st.length c2, .slice A3 ca.length c3, .string mem] 27 _ rfl (by decide))
  have H0 := Aside0.mk hr0
  have H2 := Aside0.mk hr2
  have H3 := Aside0.mk hr3
  have HC := Aside0.mk (And.intro hc0 (And.intro hc2 (And.intro hc3 hmem)))
  clear hr0 hr2 hr3 hc0 hc2 hc3 hmem
  have hu4 := Try.underlying43
  have t00 : decide (a < 0) = false := decide_eq_false (by omega)
  have t10 : decide (b < 0) = false := decide_eq_false (by omega)
  have t20 : decide (a > 2000) = false := decide_eq_false (by omega)
  have t21 : decide (2000 < a) = false := decide_eq_false (by omega)
  have t30 : decide (b > 2000) = true := decide_eq_true (by omega)
  have t31 : decide (2000 < b) = true := decide_eq_true (by omega)
  clear hf
  go_enter Try.func4, Try.ntmps4
  go_wp2_with (go_at_call 10; (with_reducible refine (awakeE HE0.out).mono ?_); rintro e w9 ⟨rfl, hE⟩; have HE9 := Aside0.mk hE; clear hE)
  go_ret
  exact ⟨rfl, HE9.out.below⟩
set_option maxHeartbeats 8000000 in
set_option maxRecDepth 100000 in
theorem parts_err (A0 : Option Addr) (c0 : Nat) (code : List In) (pc : Int) (A2 : Option Addr) (c2 : Nat) (st : List Int) (A3 : Option Addr) (c3 : Nat) (ca : List Int) (mem : ByteArray) (a b : Int) (x : Int) (w : World) (hr0 : Kd.C kIn w A0 code.length code) (hc0 : code.length ≤ c0) (hr2 : Kd.C (Kd.int .i64) w A2 st.length st) (hc2 : st.length ≤ c2) (hr3 : Kd.C (Kd.int .i64) w A3 ca.length ca) (hc3 : ca.length ≤ c3) (hmem : mem.size ≤ 140737488355328) (hf : 0 ≤ a ∧ 0 ≤ b ∧ a ≤ 2000 ∧ b ≤ 2000) (hx : x ≠ 0) (hra : runAll code ⟨pc, st, ca⟩ ⟨bytesOf mem, 0, 0⟩ a = ⟨⟨0, [], []⟩, ⟨bytesOf mem, 0, 0⟩, 0, 0, 0, x⟩) (hrb : runAll code ⟨pc, st, ca⟩ ⟨bytesOf mem, 0, 0⟩ (a + b) = ⟨⟨0, [], []⟩, ⟨bytesOf mem, 0, 0⟩, 0, 0, 0, x⟩) :
    Calls Try.prog 4 #[.agg #[.slice A0 code.length c0, .int .i64 pc, .slice A2 st.length c2, .slice A3 ca.length c3, .string mem], .int .i64 a, .int .i64 b] w (BPost w true) := by
  have hu := Try.underlying25
  have hu2 := Try.underlying33
  have hu3 := Try.underlying27
  have HE0 := Aside0.mk ((LE.start w).boxed #[.slice A0 code.length c0, .int .i64 pc, .slice A2 st.length c2, .slice A3 ca.length c3, .string mem] 27 _ rfl (by decide))
  have H0 := Aside0.mk hr0
  have H2 := Aside0.mk hr2
  have H3 := Aside0.mk hr3
  have HC := Aside0.mk (And.intro hc0 (And.intro hc2 (And.intro hc3 hmem)))
  clear hr0 hr2 hr3 hc0 hc2 hc3 hmem
  have hu4 := Try.underlying43
  have HR1 := Aside0.mk hra
  have HR2 := Aside0.mk hrb
  have tx : (x != 0) = true := by simpa using hx
  have t00 : decide (a < 0) = false := decide_eq_false (by omega)
  have t10 : decide (b < 0) = false := decide_eq_false (by omega)
  have t20 : decide (a > 2000) = false := decide_eq_false (by omega)
  have t21 : decide (2000 < a) = false := decide_eq_false (by omega)
  have t30 : decide (b > 2000) = false := decide_eq_false (by omega)
  have t31 : decide (2000 < b) = false := decide_eq_false (by omega)
  have ew : wrap64 (a + b) = a + b := by unfold wrap64; omega
  clear hx hra hrb hf
  go_enter Try.func4, Try.ntmps4
  go_wp2
  have a4 := HE0.out.c List.mem_cons_self 4
  refine start_ (n := 8) (S := fun w' => w'.cell? ⟨w.heap.size, 4, none⟩ = some (.string mem)) (ds := []) #[false, false, false, false, false, false, false, false] (by kernel_rfl) rfl rfl (a4) (fun hHeld => ?_)
  refine pure_ (i := 0) (N := some 33) (v := ?_) (a' := ?_) #[true, false, false, false, false, false, false, false] rfl rfl (by kernel_rfl) (fun _ _ _ h => h) (Or.inl ⟨by rfl, ?_⟩) ?_ ?_
  rotate_left
  · intro w'
    go_simp
    with_reducible rfl
  rotate_left
  · simp only [Act.put, List.setIfInBounds_toArray, List.set_cons_zero, List.set_cons_succ, i64_w, i32_w]
    rfl
  refine pure_ (i := 3) (N := some 36) (v := ?_) (a' := ?_) #[true, false, false, true, false, false, false, false] rfl rfl (by kernel_rfl) (fun _ _ _ h => h) (Or.inl ⟨by rfl, ?_⟩) ?_ ?_
  rotate_left
  · intro w'
    go_simp
    with_reducible rfl
  rotate_left
  · simp only [Act.put, List.setIfInBounds_toArray, List.set_cons_zero, List.set_cons_succ, i64_w, i32_w]
    rfl
  refine take_ (i := 1) (N := some 34) (v := ?_) (a' := ?_) #[true, true, false, true, false, false, false, false] rfl rfl (by kernel_rfl) (fun _ _ _ h => h) (Or.inl ⟨by rfl, ?_⟩) hHeld ?_ ?_
  rotate_left
  · intro w' s0
    go_simp
    with_reducible rfl
  rotate_left
  · simp only [Act.put, List.setIfInBounds_toArray, List.set_cons_zero, List.set_cons_succ, i64_w, i32_w]
    rfl
  refine take_ (i := 4) (N := some 37) (v := ?_) (a' := ?_) #[true, true, false, true, true, false, false, false] rfl rfl (by kernel_rfl) (fun _ _ _ h => h) (Or.inl ⟨by rfl, ?_⟩) hHeld ?_ ?_
  rotate_left
  · intro w' s0
    go_simp
    with_reducible rfl
  rotate_left
  · simp only [Act.put, List.setIfInBounds_toArray, List.set_cons_zero, List.set_cons_succ, i64_w, i32_w]
    rfl
  refine one_ (i := 2) (N := some 35) #[true, true, true, true, true, false, false, false] rfl rfl (by kernel_rfl) (by decide) (fun K hK => ?_)
  refine goes_ Try.func11 (by kernel_rfl) rfl #[.string mem] (by rfl) rfl rfl (by simp only [List.map_toArray, List.map_cons, List.map_nil]; rfl) ?_
  with_reducible refine (fillB (HE0.out.step (below_drew (Below.refl _ _))) mem HC.out.2.2.2 (w.heap.size + 1) (by simp)).mono ?_
  rintro e w1 ⟨P0, k0_, rfl, hE, hM, hb, hv⟩
  refine ⟨_, rfl, ?_⟩
  have HE1 := Aside0.mk hE
  have HM1 := Aside0.mk hM
  clear hE hM hb hv
  refine hK.out _ _ ((HE1.out.c List.mem_cons_self 4)) (fun hHeld => ?_)
  clear hK K
  refine norm_ (a' := ?_) ?_ ?_
  rotate_left
  · show Act.put _ (some 35) _ = _
    simp only [Act.put, List.setIfInBounds_toArray, List.set_cons_zero, List.set_cons_succ, i64_w, i32_w]
    rfl
  refine one_ (i := 5) (N := some 38) #[true, true, true, true, true, true, false, false] rfl rfl (by kernel_rfl) (by decide) (fun K hK => ?_)
  refine goes_ Try.func11 (by kernel_rfl) rfl #[.string mem] (by rfl) rfl rfl (by simp only [List.map_toArray, List.map_cons, List.map_nil]; rfl) ?_
  with_reducible refine (fillB HE1.out mem HC.out.2.2.2 (w1.heap.size) rfl).mono ?_
  rintro e w2 ⟨Q0, l0_, rfl, hE, hM, hb, hv⟩
  refine ⟨_, rfl, ?_⟩
  have HE2 := Aside0.mk hE
  have HT2 := Aside0.mk (Two.mk' HM1.out hb hM hv)
  clear hE hM hb hv
  refine hK.out _ _ ((HE2.out.c List.mem_cons_self 4)) (fun hHeld => ?_)
  clear hK K
  refine norm_ (a' := ?_) ?_ ?_
  rotate_left
  · show Act.put _ (some 38) _ = _
    simp only [Act.put, List.setIfInBounds_toArray, List.set_cons_zero, List.set_cons_succ, i64_w, i32_w]
    rfl
  refine pure_ (i := 6) (N := some 7) (v := ?_) (a' := ?_) #[true, true, true, true, true, true, true, false] rfl rfl (by kernel_rfl) (fun _ _ _ h => h) (Or.inl ⟨by rfl, ?_⟩) ?_ ?_
  rotate_left
  · intro w'
    go_simp
    with_reducible rfl
  rotate_left
  · simp only [Act.put, List.setIfInBounds_toArray, List.set_cons_zero, List.set_cons_succ, i64_w, i32_w]
    rfl
  refine pure_ (i := 7) (N := some 8) (v := ?_) (a' := ?_) #[true, true, true, true, true, true, true, true] rfl rfl (by kernel_rfl) (fun _ _ _ h => h) (Or.inl ⟨by rfl, ?_⟩) ?_ ?_
  rotate_left
  · intro w'
    go_simp
    with_reducible rfl
  rotate_left
  · simp only [Act.put, List.setIfInBounds_toArray, List.set_cons_zero, List.set_cons_succ, i64_w, i32_w]
    rfl
  refine done_ (by kernel_rfl) ?_

  clear a4
  have a0 := HE2.out.c List.mem_cons_self 0
  have a1 := HE2.out.c List.mem_cons_self 1
  have a2 := HE2.out.c List.mem_cons_self 2
  have a3 := HE2.out.c List.mem_cons_self 3
  have a4 := HE2.out.c List.mem_cons_self 4
  go_wp2_with (first
    | (go_at_call 13; (with_reducible refine (runE (s := ⟨pc, st, ca⟩) HE2.out (Kd.C_below H0.out HE2.out.below) HC.out.1 (Kd.C_below H2.out HE2.out.below) (Kd.C_below H3.out HE2.out.below) HT2.out.a (far_in H0.out HT2.out.a) HR1.out).mono ?_); rintro e w3 ⟨B1, d1, B2, d2, v_, rfl, hE, hM, hmv, hf_⟩; try dsimp only at hE hM; obtain ⟨V1, k1_, rfl⟩ := own_slice hM.at_.row; have hE2 := hE.res (.int .i64 0) (.slice B1 0 d1) (.slice B2 0 d2) (.int .i64 0) (.int .i64 0) (.int .i64 0); have HE3 := Aside0.mk hE2; have HT3 := Aside0.mk ((HT2.out.run_a hM hmv hf_).step (below_alloc (below_alloc (Below.refl _ _) (.cells #[.int .i64 0, .slice B1 0 d1, .slice B2 0 d2] 25)) (.cells #[.int .i64 0, .int .i64 0, .int .i64 0] 33))); clear a0 a1 a2 a3 a4; have a0 := hE2.c (List.mem_cons_of_mem _ (List.mem_cons_of_mem _ List.mem_cons_self)) 0; have a1 := hE2.c (List.mem_cons_of_mem _ (List.mem_cons_of_mem _ List.mem_cons_self)) 1; have a2 := hE2.c (List.mem_cons_of_mem _ (List.mem_cons_of_mem _ List.mem_cons_self)) 2; have a3 := hE2.c (List.mem_cons_of_mem _ (List.mem_cons_of_mem _ List.mem_cons_self)) 3; have a4 := hE2.c (List.mem_cons_of_mem _ (List.mem_cons_of_mem _ List.mem_cons_self)) 4; have z1_0 := hE2.c List.mem_cons_self 0; have z1_1 := hE2.c List.mem_cons_self 1; have z1_2 := hE2.c List.mem_cons_self 2; have s1_0 := hE2.c (List.mem_cons_of_mem _ List.mem_cons_self) 0; have s1_1 := hE2.c (List.mem_cons_of_mem _ List.mem_cons_self) 1; have s1_2 := hE2.c (List.mem_cons_of_mem _ List.mem_cons_self) 2; clear hE hE2 hM hmv hf_)
    | (go_at_call 13; (with_reducible refine (runE (s := ⟨pc, st, ca⟩) HE3.out (Kd.C_below H0.out HE3.out.below) HC.out.1 (Kd.C_below H2.out HE3.out.below) (Kd.C_below H3.out HE3.out.below) HT3.out.b (far_in H0.out HT3.out.b) HR2.out).mono ?_); rintro e w4 ⟨D1, e1, D2, e2, v_, rfl, hE, hM, hmv, hf_⟩; try dsimp only at hE hM; obtain ⟨V2, k2_, rfl⟩ := own_slice hM.at_.row; have hE2 := hE.res (.int .i64 0) (.slice D1 0 e1) (.slice D2 0 e2) (.int .i64 0) (.int .i64 0) (.int .i64 0); have HE4 := Aside0.mk hE2; have HT4 := Aside0.mk ((HT3.out.run_b hM hmv hf_).step (below_alloc (below_alloc (Below.refl _ _) (.cells #[.int .i64 0, .slice D1 0 e1, .slice D2 0 e2] 25)) (.cells #[.int .i64 0, .int .i64 0, .int .i64 0] 33))); clear a0 a1 a2 a3 a4 z1_0 s1_0 z1_1 s1_1 z1_2 s1_2; have a0 := hE2.c (List.mem_cons_of_mem _ (List.mem_cons_of_mem _ (List.mem_cons_of_mem _ (List.mem_cons_of_mem _ List.mem_cons_self)))) 0; have a1 := hE2.c (List.mem_cons_of_mem _ (List.mem_cons_of_mem _ (List.mem_cons_of_mem _ (List.mem_cons_of_mem _ List.mem_cons_self)))) 1; have a2 := hE2.c (List.mem_cons_of_mem _ (List.mem_cons_of_mem _ (List.mem_cons_of_mem _ (List.mem_cons_of_mem _ List.mem_cons_self)))) 2; have a3 := hE2.c (List.mem_cons_of_mem _ (List.mem_cons_of_mem _ (List.mem_cons_of_mem _ (List.mem_cons_of_mem _ List.mem_cons_self)))) 3; have a4 := hE2.c (List.mem_cons_of_mem _ (List.mem_cons_of_mem _ (List.mem_cons_of_mem _ (List.mem_cons_of_mem _ List.mem_cons_self)))) 4; have z2_0 := hE2.c List.mem_cons_self 0; have z2_1 := hE2.c List.mem_cons_self 1; have z2_2 := hE2.c List.mem_cons_self 2; have s2_0 := hE2.c (List.mem_cons_of_mem _ List.mem_cons_self) 0; have s2_1 := hE2.c (List.mem_cons_of_mem _ List.mem_cons_self) 1; have s2_2 := hE2.c (List.mem_cons_of_mem _ List.mem_cons_self) 2; have z1_0 := hE2.c (List.mem_cons_of_mem _ (List.mem_cons_of_mem _ List.mem_cons_self)) 0; have z1_1 := hE2.c (List.mem_cons_of_mem _ (List.mem_cons_of_mem _ List.mem_cons_self)) 1; have z1_2 := hE2.c (List.mem_cons_of_mem _ (List.mem_cons_of_mem _ List.mem_cons_self)) 2; have s1_0 := hE2.c (List.mem_cons_of_mem _ (List.mem_cons_of_mem _ (List.mem_cons_of_mem _ List.mem_cons_self))) 0; have s1_1 := hE2.c (List.mem_cons_of_mem _ (List.mem_cons_of_mem _ (List.mem_cons_of_mem _ List.mem_cons_self))) 1; have s1_2 := hE2.c (List.mem_cons_of_mem _ (List.mem_cons_of_mem _ (List.mem_cons_of_mem _ List.mem_cons_self))) 2; clear hE hE2 hM hmv hf_)
    | (go_at_call 10; (with_reducible refine (awakeE HE4.out).mono ?_); rintro e w9 ⟨rfl, hE⟩; have HE9 := Aside0.mk hE; clear hE))
  go_ret
  exact ⟨rfl, HE9.out.below⟩
set_option maxHeartbeats 8000000 in
set_option maxRecDepth 100000 in
theorem parts_full (A0 : Option Addr) (c0 : Nat) (code : List In) (pc : Int) (A2 : Option Addr) (c2 : Nat) (st : List Int) (A3 : Option Addr) (c3 : Nat) (ca : List Int) (mem : ByteArray) (a b : Int) (s2 : St) (m2 : Mem) (k t u : Int) (w : World) (hr0 : Kd.C kIn w A0 code.length code) (hc0 : code.length ≤ c0) (hr2 : Kd.C (Kd.int .i64) w A2 st.length st) (hc2 : st.length ≤ c2) (hr3 : Kd.C (Kd.int .i64) w A3 ca.length ca) (hc3 : ca.length ≤ c3) (hmem : mem.size ≤ 140737488355328) (hf : 0 ≤ a ∧ 0 ≤ b ∧ a ≤ 2000 ∧ b ≤ 2000) (hk : k ≠ 1) (hm : mayP s2 code.length) (hra : runAll code ⟨pc, st, ca⟩ ⟨bytesOf mem, 0, 0⟩ a = ⟨s2, m2, k, t, u, 0⟩) (hrb : runAll code ⟨pc, st, ca⟩ ⟨bytesOf mem, 0, 0⟩ (a + b) = ⟨s2, m2, k, t, u, 0⟩) :
    Calls Try.prog 4 #[.agg #[.slice A0 code.length c0, .int .i64 pc, .slice A2 st.length c2, .slice A3 ca.length c3, .string mem], .int .i64 a, .int .i64 b] w (BPost w true) := by
  have hu := Try.underlying25
  have hu2 := Try.underlying33
  have hu3 := Try.underlying27
  have HE0 := Aside0.mk ((LE.start w).boxed #[.slice A0 code.length c0, .int .i64 pc, .slice A2 st.length c2, .slice A3 ca.length c3, .string mem] 27 _ rfl (by decide))
  have H0 := Aside0.mk hr0
  have H2 := Aside0.mk hr2
  have H3 := Aside0.mk hr3
  have HC := Aside0.mk (And.intro hc0 (And.intro hc2 (And.intro hc3 hmem)))
  clear hr0 hr2 hr3 hc0 hc2 hc3 hmem
  have hu4 := Try.underlying43
  have HR1 := Aside0.mk hra
  have HR2 := Aside0.mk hrb
  have HL := Aside0.mk (show s2.st.length ≤ 4611686018427387904 ∧ s2.ca.length ≤ 4611686018427387904 from ⟨Nat.le_trans hm.2.2.1 (by decide), Nat.le_trans hm.2.2.2.1 (by decide)⟩)
  have tk : (k != 1) = true := by simpa using hk
  have t00 : decide (a < 0) = false := decide_eq_false (by omega)
  have t10 : decide (b < 0) = false := decide_eq_false (by omega)
  have t20 : decide (a > 2000) = false := decide_eq_false (by omega)
  have t21 : decide (2000 < a) = false := decide_eq_false (by omega)
  have t30 : decide (b > 2000) = false := decide_eq_false (by omega)
  have t31 : decide (2000 < b) = false := decide_eq_false (by omega)
  have ew : wrap64 (a + b) = a + b := by unfold wrap64; omega
  clear hk hm hra hrb hf
  go_enter Try.func4, Try.ntmps4
  go_wp2
  have a4 := HE0.out.c List.mem_cons_self 4
  refine start_ (n := 8) (S := fun w' => w'.cell? ⟨w.heap.size, 4, none⟩ = some (.string mem)) (ds := []) #[false, false, false, false, false, false, false, false] (by kernel_rfl) rfl rfl (a4) (fun hHeld => ?_)
  refine pure_ (i := 0) (N := some 33) (v := ?_) (a' := ?_) #[true, false, false, false, false, false, false, false] rfl rfl (by kernel_rfl) (fun _ _ _ h => h) (Or.inl ⟨by rfl, ?_⟩) ?_ ?_
  rotate_left
  · intro w'
    go_simp
    with_reducible rfl
  rotate_left
  · simp only [Act.put, List.setIfInBounds_toArray, List.set_cons_zero, List.set_cons_succ, i64_w, i32_w]
    rfl
  refine pure_ (i := 3) (N := some 36) (v := ?_) (a' := ?_) #[true, false, false, true, false, false, false, false] rfl rfl (by kernel_rfl) (fun _ _ _ h => h) (Or.inl ⟨by rfl, ?_⟩) ?_ ?_
  rotate_left
  · intro w'
    go_simp
    with_reducible rfl
  rotate_left
  · simp only [Act.put, List.setIfInBounds_toArray, List.set_cons_zero, List.set_cons_succ, i64_w, i32_w]
    rfl
  refine take_ (i := 1) (N := some 34) (v := ?_) (a' := ?_) #[true, true, false, true, false, false, false, false] rfl rfl (by kernel_rfl) (fun _ _ _ h => h) (Or.inl ⟨by rfl, ?_⟩) hHeld ?_ ?_
  rotate_left
  · intro w' s0
    go_simp
    with_reducible rfl
  rotate_left
  · simp only [Act.put, List.setIfInBounds_toArray, List.set_cons_zero, List.set_cons_succ, i64_w, i32_w]
    rfl
  refine take_ (i := 4) (N := some 37) (v := ?_) (a' := ?_) #[true, true, false, true, true, false, false, false] rfl rfl (by kernel_rfl) (fun _ _ _ h => h) (Or.inl ⟨by rfl, ?_⟩) hHeld ?_ ?_
  rotate_left
  · intro w' s0
    go_simp
    with_reducible rfl
  rotate_left
  · simp only [Act.put, List.setIfInBounds_toArray, List.set_cons_zero, List.set_cons_succ, i64_w, i32_w]
    rfl
  refine one_ (i := 2) (N := some 35) #[true, true, true, true, true, false, false, false] rfl rfl (by kernel_rfl) (by decide) (fun K hK => ?_)
  refine goes_ Try.func11 (by kernel_rfl) rfl #[.string mem] (by rfl) rfl rfl (by simp only [List.map_toArray, List.map_cons, List.map_nil]; rfl) ?_
  with_reducible refine (fillB (HE0.out.step (below_drew (Below.refl _ _))) mem HC.out.2.2.2 (w.heap.size + 1) (by simp)).mono ?_
  rintro e w1 ⟨P0, k0_, rfl, hE, hM, hb, hv⟩
  refine ⟨_, rfl, ?_⟩
  have HE1 := Aside0.mk hE
  have HM1 := Aside0.mk hM
  clear hE hM hb hv
  refine hK.out _ _ ((HE1.out.c List.mem_cons_self 4)) (fun hHeld => ?_)
  clear hK K
  refine norm_ (a' := ?_) ?_ ?_
  rotate_left
  · show Act.put _ (some 35) _ = _
    simp only [Act.put, List.setIfInBounds_toArray, List.set_cons_zero, List.set_cons_succ, i64_w, i32_w]
    rfl
  refine one_ (i := 5) (N := some 38) #[true, true, true, true, true, true, false, false] rfl rfl (by kernel_rfl) (by decide) (fun K hK => ?_)
  refine goes_ Try.func11 (by kernel_rfl) rfl #[.string mem] (by rfl) rfl rfl (by simp only [List.map_toArray, List.map_cons, List.map_nil]; rfl) ?_
  with_reducible refine (fillB HE1.out mem HC.out.2.2.2 (w1.heap.size) rfl).mono ?_
  rintro e w2 ⟨Q0, l0_, rfl, hE, hM, hb, hv⟩
  refine ⟨_, rfl, ?_⟩
  have HE2 := Aside0.mk hE
  have HT2 := Aside0.mk (Two.mk' HM1.out hb hM hv)
  clear hE hM hb hv
  refine hK.out _ _ ((HE2.out.c List.mem_cons_self 4)) (fun hHeld => ?_)
  clear hK K
  refine norm_ (a' := ?_) ?_ ?_
  rotate_left
  · show Act.put _ (some 38) _ = _
    simp only [Act.put, List.setIfInBounds_toArray, List.set_cons_zero, List.set_cons_succ, i64_w, i32_w]
    rfl
  refine pure_ (i := 6) (N := some 7) (v := ?_) (a' := ?_) #[true, true, true, true, true, true, true, false] rfl rfl (by kernel_rfl) (fun _ _ _ h => h) (Or.inl ⟨by rfl, ?_⟩) ?_ ?_
  rotate_left
  · intro w'
    go_simp
    with_reducible rfl
  rotate_left
  · simp only [Act.put, List.setIfInBounds_toArray, List.set_cons_zero, List.set_cons_succ, i64_w, i32_w]
    rfl
  refine pure_ (i := 7) (N := some 8) (v := ?_) (a' := ?_) #[true, true, true, true, true, true, true, true] rfl rfl (by kernel_rfl) (fun _ _ _ h => h) (Or.inl ⟨by rfl, ?_⟩) ?_ ?_
  rotate_left
  · intro w'
    go_simp
    with_reducible rfl
  rotate_left
  · simp only [Act.put, List.setIfInBounds_toArray, List.set_cons_zero, List.set_cons_succ, i64_w, i32_w]
    rfl
  refine done_ (by kernel_rfl) ?_

  clear a4
  have a0 := HE2.out.c List.mem_cons_self 0
  have a1 := HE2.out.c List.mem_cons_self 1
  have a2 := HE2.out.c List.mem_cons_self 2
  have a3 := HE2.out.c List.mem_cons_self 3
  have a4 := HE2.out.c List.mem_cons_self 4
  go_wp2_with (first
    | (go_at_call 13; (with_reducible refine (runE (s := ⟨pc, st, ca⟩) HE2.out (Kd.C_below H0.out HE2.out.below) HC.out.1 (Kd.C_below H2.out HE2.out.below) (Kd.C_below H3.out HE2.out.below) HT2.out.a (far_in H0.out HT2.out.a) HR1.out).mono ?_); rintro e w3 ⟨B1, d1, B2, d2, v_, rfl, hE, hM, hmv, hf_⟩; try dsimp only at hE hM; obtain ⟨V1, k1_, rfl⟩ := own_slice hM.at_.row; have hE2 := hE.res (.int .i64 s2.pc) (.slice B1 s2.st.length d1) (.slice B2 s2.ca.length d2) (.int .i64 k) (.int .i64 t) (.int .i64 u); have HE3 := Aside0.mk hE2; have HT3 := Aside0.mk ((HT2.out.run_a hM hmv hf_).step (below_alloc (below_alloc (Below.refl _ _) (.cells #[.int .i64 s2.pc, .slice B1 s2.st.length d1, .slice B2 s2.ca.length d2] 25)) (.cells #[.int .i64 k, .int .i64 t, .int .i64 u] 33))); clear a0 a1 a2 a3 a4; have a0 := hE2.c (List.mem_cons_of_mem _ (List.mem_cons_of_mem _ List.mem_cons_self)) 0; have a1 := hE2.c (List.mem_cons_of_mem _ (List.mem_cons_of_mem _ List.mem_cons_self)) 1; have a2 := hE2.c (List.mem_cons_of_mem _ (List.mem_cons_of_mem _ List.mem_cons_self)) 2; have a3 := hE2.c (List.mem_cons_of_mem _ (List.mem_cons_of_mem _ List.mem_cons_self)) 3; have a4 := hE2.c (List.mem_cons_of_mem _ (List.mem_cons_of_mem _ List.mem_cons_self)) 4; have z1_0 := hE2.c List.mem_cons_self 0; have z1_1 := hE2.c List.mem_cons_self 1; have z1_2 := hE2.c List.mem_cons_self 2; have s1_0 := hE2.c (List.mem_cons_of_mem _ List.mem_cons_self) 0; have s1_1 := hE2.c (List.mem_cons_of_mem _ List.mem_cons_self) 1; have s1_2 := hE2.c (List.mem_cons_of_mem _ List.mem_cons_self) 2; clear hE hE2 hM hmv hf_)
    | (go_at_call 13; (with_reducible refine (runE (s := ⟨pc, st, ca⟩) HE3.out (Kd.C_below H0.out HE3.out.below) HC.out.1 (Kd.C_below H2.out HE3.out.below) (Kd.C_below H3.out HE3.out.below) HT3.out.b (far_in H0.out HT3.out.b) HR2.out).mono ?_); rintro e w4 ⟨D1, e1, D2, e2, v_, rfl, hE, hM, hmv, hf_⟩; try dsimp only at hE hM; obtain ⟨V2, k2_, rfl⟩ := own_slice hM.at_.row; have hE2 := hE.res (.int .i64 s2.pc) (.slice D1 s2.st.length e1) (.slice D2 s2.ca.length e2) (.int .i64 k) (.int .i64 t) (.int .i64 u); have HE4 := Aside0.mk hE2; have HT4 := Aside0.mk ((HT3.out.run_b hM hmv hf_).step (below_alloc (below_alloc (Below.refl _ _) (.cells #[.int .i64 s2.pc, .slice D1 s2.st.length e1, .slice D2 s2.ca.length e2] 25)) (.cells #[.int .i64 k, .int .i64 t, .int .i64 u] 33))); clear a0 a1 a2 a3 a4 z1_0 s1_0 z1_1 s1_1 z1_2 s1_2; have a0 := hE2.c (List.mem_cons_of_mem _ (List.mem_cons_of_mem _ (List.mem_cons_of_mem _ (List.mem_cons_of_mem _ List.mem_cons_self)))) 0; have a1 := hE2.c (List.mem_cons_of_mem _ (List.mem_cons_of_mem _ (List.mem_cons_of_mem _ (List.mem_cons_of_mem _ List.mem_cons_self)))) 1; have a2 := hE2.c (List.mem_cons_of_mem _ (List.mem_cons_of_mem _ (List.mem_cons_of_mem _ (List.mem_cons_of_mem _ List.mem_cons_self)))) 2; have a3 := hE2.c (List.mem_cons_of_mem _ (List.mem_cons_of_mem _ (List.mem_cons_of_mem _ (List.mem_cons_of_mem _ List.mem_cons_self)))) 3; have a4 := hE2.c (List.mem_cons_of_mem _ (List.mem_cons_of_mem _ (List.mem_cons_of_mem _ (List.mem_cons_of_mem _ List.mem_cons_self)))) 4; have z2_0 := hE2.c List.mem_cons_self 0; have z2_1 := hE2.c List.mem_cons_self 1; have z2_2 := hE2.c List.mem_cons_self 2; have s2_0 := hE2.c (List.mem_cons_of_mem _ List.mem_cons_self) 0; have s2_1 := hE2.c (List.mem_cons_of_mem _ List.mem_cons_self) 1; have s2_2 := hE2.c (List.mem_cons_of_mem _ List.mem_cons_self) 2; have z1_0 := hE2.c (List.mem_cons_of_mem _ (List.mem_cons_of_mem _ List.mem_cons_self)) 0; have z1_1 := hE2.c (List.mem_cons_of_mem _ (List.mem_cons_of_mem _ List.mem_cons_self)) 1; have z1_2 := hE2.c (List.mem_cons_of_mem _ (List.mem_cons_of_mem _ List.mem_cons_self)) 2; have s1_0 := hE2.c (List.mem_cons_of_mem _ (List.mem_cons_of_mem _ (List.mem_cons_of_mem _ List.mem_cons_self))) 0; have s1_1 := hE2.c (List.mem_cons_of_mem _ (List.mem_cons_of_mem _ (List.mem_cons_of_mem _ List.mem_cons_self))) 1; have s1_2 := hE2.c (List.mem_cons_of_mem _ (List.mem_cons_of_mem _ (List.mem_cons_of_mem _ List.mem_cons_self))) 2; clear hE hE2 hM hmv hf_))
  have HX := Aside0.mk (HE4.out.step (below_drew (Below.refl _ _)))
  have HT := Aside0.mk (HT4.out.step (below_drew (Below.refl _ _)))
  have hp0 := blk_cell HT.out.a.at_.box 0
  have hq0 := blk_cell HT.out.b.at_.box 0
  refine start_ (n := 29) (S := fun w' => w'.cell? ⟨w3.heap.size + 1, 0, none⟩ = some (.int .i64 k) ∧ w'.cell? ⟨w3.heap.size + 1, 1, none⟩ = some (.int .i64 t) ∧ w'.cell? ⟨w3.heap.size + 1, 2, none⟩ = some (.int .i64 u) ∧ w'.cell? ⟨w4.heap.size + 1, 0, none⟩ = some (.int .i64 k) ∧ w'.cell? ⟨w4.heap.size + 1, 1, none⟩ = some (.int .i64 t) ∧ w'.cell? ⟨w4.heap.size + 1, 2, none⟩ = some (.int .i64 u) ∧ w'.cell? ⟨w3.heap.size, 0, none⟩ = some (.int .i64 s2.pc) ∧ w'.cell? ⟨w3.heap.size, 1, none⟩ = some (.slice B1 s2.st.length d1) ∧ w'.cell? ⟨w3.heap.size, 2, none⟩ = some (.slice B2 s2.ca.length d2) ∧ w'.cell? ⟨w4.heap.size, 0, none⟩ = some (.int .i64 s2.pc) ∧ w'.cell? ⟨w4.heap.size, 1, none⟩ = some (.slice D1 s2.st.length e1) ∧ w'.cell? ⟨w4.heap.size, 2, none⟩ = some (.slice D2 s2.ca.length e2) ∧ w'.cell? ⟨w.heap.size + 1, 0, none⟩ = some (.slice V1 m2.b.length k1_) ∧ w'.cell? ⟨w1.heap.size, 0, none⟩ = some (.slice V2 m2.b.length k2_) ∧ (convert 37 9 (.slice V1 m2.b.length k1_)).run Try.prog w' = .ok (.string (strOfNums m2.b)) w' ∧ (convert 37 9 (.slice V2 m2.b.length k2_)).run Try.prog w' = .ok (.string (strOfNums m2.b)) w') (ds := []) #[false, false, false, false, false, false, false, false, false, false, false, false, false, false, false, false, false, false, false, false, false, false, false, false, false, false, false, false, false] (by kernel_rfl) rfl rfl ⟨(HX.out.c (List.mem_cons_of_mem _ (List.mem_cons_of_mem _ List.mem_cons_self)) 0), (HX.out.c (List.mem_cons_of_mem _ (List.mem_cons_of_mem _ List.mem_cons_self)) 1), (HX.out.c (List.mem_cons_of_mem _ (List.mem_cons_of_mem _ List.mem_cons_self)) 2), (HX.out.c List.mem_cons_self 0), (HX.out.c List.mem_cons_self 1), (HX.out.c List.mem_cons_self 2), (HX.out.c (List.mem_cons_of_mem _ (List.mem_cons_of_mem _ (List.mem_cons_of_mem _ List.mem_cons_self))) 0), (HX.out.c (List.mem_cons_of_mem _ (List.mem_cons_of_mem _ (List.mem_cons_of_mem _ List.mem_cons_self))) 1), (HX.out.c (List.mem_cons_of_mem _ (List.mem_cons_of_mem _ (List.mem_cons_of_mem _ List.mem_cons_self))) 2), (HX.out.c (List.mem_cons_of_mem _ List.mem_cons_self) 0), (HX.out.c (List.mem_cons_of_mem _ List.mem_cons_self) 1), (HX.out.c (List.mem_cons_of_mem _ List.mem_cons_self) 2), (blk_cell HT.out.a.at_.box 0), (blk_cell HT.out.b.at_.box 0), HT.out.str_a, HT.out.str_b⟩ (fun hHeld => ?_)
  refine pure_ (i := 0) (N := some 76) (v := ?_) (a' := ?_) #[true, false, false, false, false, false, false, false, false, false, false, false, false, false, false, false, false, false, false, false, false, false, false, false, false, false, false, false, false] rfl rfl (by kernel_rfl) (fun _ _ _ h => h) (Or.inl ⟨by rfl, ?_⟩) ?_ ?_
  rotate_left
  · intro w'
    go_simp
    with_reducible rfl
  rotate_left
  · simp only [Act.put, List.setIfInBounds_toArray, List.set_cons_zero, List.set_cons_succ, i64_w, i32_w]
    rfl
  refine pure_ (i := 1) (N := some 77) (v := ?_) (a' := ?_) #[true, true, false, false, false, false, false, false, false, false, false, false, false, false, false, false, false, false, false, false, false, false, false, false, false, false, false, false, false] rfl rfl (by kernel_rfl) (fun _ _ _ h => h) (Or.inl ⟨by rfl, ?_⟩) ?_ ?_
  rotate_left
  · intro w'
    go_simp
    with_reducible rfl
  rotate_left
  · simp only [Act.put, List.setIfInBounds_toArray, List.set_cons_zero, List.set_cons_succ, i64_w, i32_w]
    rfl
  refine pure_ (i := 2) (N := some 78) (v := ?_) (a' := ?_) #[true, true, true, false, false, false, false, false, false, false, false, false, false, false, false, false, false, false, false, false, false, false, false, false, false, false, false, false, false] rfl rfl (by kernel_rfl) (fun _ _ _ h => h) (Or.inl ⟨by rfl, ?_⟩) ?_ ?_
  rotate_left
  · intro w'
    go_simp
    with_reducible rfl
  rotate_left
  · simp only [Act.put, List.setIfInBounds_toArray, List.set_cons_zero, List.set_cons_succ, i64_w, i32_w]
    rfl
  refine take_ (i := 3) (N := some 79) (v := ?_) (a' := ?_) #[true, true, true, true, false, false, false, false, false, false, false, false, false, false, false, false, false, false, false, false, false, false, false, false, false, false, false, false, false] rfl rfl (by kernel_rfl) (fun _ _ _ h => h) (Or.inl ⟨by rfl, ?_⟩) hHeld ?_ ?_
  rotate_left
  · rintro w' ⟨s0, s1, s2, s3, s4, s5, s6, s7, s8, s9, s10, s11, s12, s13, s14, s15⟩
    go_simp
    with_reducible rfl
  rotate_left
  · simp only [Act.put, List.setIfInBounds_toArray, List.set_cons_zero, List.set_cons_succ, i64_w, i32_w]
    rfl
  refine take_ (i := 4) (N := some 80) (v := ?_) (a' := ?_) #[true, true, true, true, true, false, false, false, false, false, false, false, false, false, false, false, false, false, false, false, false, false, false, false, false, false, false, false, false] rfl rfl (by kernel_rfl) (fun _ _ _ h => h) (Or.inl ⟨by rfl, ?_⟩) hHeld ?_ ?_
  rotate_left
  · rintro w' ⟨s0, s1, s2, s3, s4, s5, s6, s7, s8, s9, s10, s11, s12, s13, s14, s15⟩
    go_simp
    with_reducible rfl
  rotate_left
  · simp only [Act.put, List.setIfInBounds_toArray, List.set_cons_zero, List.set_cons_succ, i64_w, i32_w]
    rfl
  refine pure_ (i := 5) (N := some 81) (v := ?_) (a' := ?_) #[true, true, true, true, true, true, false, false, false, false, false, false, false, false, false, false, false, false, false, false, false, false, false, false, false, false, false, false, false] rfl rfl (by kernel_rfl) (fun _ _ _ h => h) (Or.inl ⟨by rfl, ?_⟩) ?_ ?_
  rotate_left
  · intro w'
    go_simp
    with_reducible rfl
  rotate_left
  · simp only [Act.put, List.setIfInBounds_toArray, List.set_cons_zero, List.set_cons_succ, i64_w, i32_w]
    rfl
  refine pure_ (i := 6) (N := some 82) (v := ?_) (a' := ?_) #[true, true, true, true, true, true, true, false, false, false, false, false, false, false, false, false, false, false, false, false, false, false, false, false, false, false, false, false, false] rfl rfl (by kernel_rfl) (fun _ _ _ h => h) (Or.inl ⟨by rfl, ?_⟩) ?_ ?_
  rotate_left
  · intro w'
    go_simp
    with_reducible rfl
  rotate_left
  · simp only [Act.put, List.setIfInBounds_toArray, List.set_cons_zero, List.set_cons_succ, i64_w, i32_w]
    rfl
  refine pure_ (i := 7) (N := some 83) (v := ?_) (a' := ?_) #[true, true, true, true, true, true, true, true, false, false, false, false, false, false, false, false, false, false, false, false, false, false, false, false, false, false, false, false, false] rfl rfl (by kernel_rfl) (fun _ _ _ h => h) (Or.inl ⟨by rfl, ?_⟩) ?_ ?_
  rotate_left
  · intro w'
    go_simp
    with_reducible rfl
  rotate_left
  · simp only [Act.put, List.setIfInBounds_toArray, List.set_cons_zero, List.set_cons_succ, i64_w, i32_w]
    rfl
  refine take_ (i := 8) (N := some 84) (v := ?_) (a' := ?_) #[true, true, true, true, true, true, true, true, true, false, false, false, false, false, false, false, false, false, false, false, false, false, false, false, false, false, false, false, false] rfl rfl (by kernel_rfl) (fun _ _ _ h => h) (Or.inl ⟨by rfl, ?_⟩) hHeld ?_ ?_
  rotate_left
  · rintro w' ⟨s0, s1, s2, s3, s4, s5, s6, s7, s8, s9, s10, s11, s12, s13, s14, s15⟩
    go_simp
    with_reducible rfl
  rotate_left
  · simp only [Act.put, List.setIfInBounds_toArray, List.set_cons_zero, List.set_cons_succ, i64_w, i32_w]
    rfl
  refine take_ (i := 9) (N := some 85) (v := ?_) (a' := ?_) #[true, true, true, true, true, true, true, true, true, true, false, false, false, false, false, false, false, false, false, false, false, false, false, false, false, false, false, false, false] rfl rfl (by kernel_rfl) (fun _ _ _ h => h) (Or.inl ⟨by rfl, ?_⟩) hHeld ?_ ?_
  rotate_left
  · rintro w' ⟨s0, s1, s2, s3, s4, s5, s6, s7, s8, s9, s10, s11, s12, s13, s14, s15⟩
    go_simp
    with_reducible rfl
  rotate_left
  · simp only [Act.put, List.setIfInBounds_toArray, List.set_cons_zero, List.set_cons_succ, i64_w, i32_w]
    rfl
  refine one_ (i := 10) (N := some 86) #[true, true, true, true, true, true, true, true, true, true, true, false, false, false, false, false, false, false, false, false, false, false, false, false, false, false, false, false, false] rfl rfl (by kernel_rfl) (by decide) (fun K hK => ?_)
  refine goes_ Try.func15 (by kernel_rfl) rfl #[.agg #[.int .i64 s2.pc, .slice B1 s2.st.length d1, .slice B2 s2.ca.length d2], .agg #[.int .i64 s2.pc, .slice D1 s2.st.length e1, .slice D2 s2.ca.length e2]] (by rfl) rfl rfl (by simp only [List.map_toArray, List.map_cons, List.map_nil]; rfl) ?_
  with_reducible refine (rsameB HX.out (HX.out.r (List.mem_cons_of_mem _ (List.mem_cons_of_mem _ List.mem_cons_self))) (HX.out.r (List.mem_cons_of_mem _ (List.mem_cons_of_mem _ (List.mem_cons_of_mem _ List.mem_cons_self)))) (HX.out.r List.mem_cons_self) (HX.out.r (List.mem_cons_of_mem _ List.mem_cons_self)) HL.out.1 HL.out.2 (decide_eq_true (stEq_refl s2))).mono ?_
  rintro e w7 ⟨rfl, hE, hb⟩
  refine ⟨_, rfl, ?_⟩
  have HX7 := Aside0.mk hE
  have HT7 := Aside0.mk (HT.out.step hb)
  clear hE hb
  refine hK.out _ _ ⟨(HX7.out.c (List.mem_cons_of_mem _ (List.mem_cons_of_mem _ List.mem_cons_self)) 0), (HX7.out.c (List.mem_cons_of_mem _ (List.mem_cons_of_mem _ List.mem_cons_self)) 1), (HX7.out.c (List.mem_cons_of_mem _ (List.mem_cons_of_mem _ List.mem_cons_self)) 2), (HX7.out.c List.mem_cons_self 0), (HX7.out.c List.mem_cons_self 1), (HX7.out.c List.mem_cons_self 2), (HX7.out.c (List.mem_cons_of_mem _ (List.mem_cons_of_mem _ (List.mem_cons_of_mem _ List.mem_cons_self))) 0), (HX7.out.c (List.mem_cons_of_mem _ (List.mem_cons_of_mem _ (List.mem_cons_of_mem _ List.mem_cons_self))) 1), (HX7.out.c (List.mem_cons_of_mem _ (List.mem_cons_of_mem _ (List.mem_cons_of_mem _ List.mem_cons_self))) 2), (HX7.out.c (List.mem_cons_of_mem _ List.mem_cons_self) 0), (HX7.out.c (List.mem_cons_of_mem _ List.mem_cons_self) 1), (HX7.out.c (List.mem_cons_of_mem _ List.mem_cons_self) 2), (blk_cell HT7.out.a.at_.box 0), (blk_cell HT7.out.b.at_.box 0), HT7.out.str_a, HT7.out.str_b⟩ (fun hHeld => ?_)
  clear hK K
  refine norm_ (a' := ?_) ?_ ?_
  rotate_left
  · show Act.put _ (some 86) _ = _
    simp only [Act.put, List.setIfInBounds_toArray, List.set_cons_zero, List.set_cons_succ, i64_w, i32_w]
    rfl
  refine pure_ (i := 11) (N := some 87) (v := ?_) (a' := ?_) #[true, true, true, true, true, true, true, true, true, true, true, true, false, false, false, false, false, false, false, false, false, false, false, false, false, false, false, false, false] rfl rfl (by kernel_rfl) (fun _ _ _ h => h) (Or.inl ⟨by rfl, ?_⟩) ?_ ?_
  rotate_left
  · intro w'
    go_simp
    with_reducible rfl
  rotate_left
  · simp only [Act.put, List.setIfInBounds_toArray, List.set_cons_zero, List.set_cons_succ, i64_w, i32_w]
    rfl
  refine pure_ (i := 12) (N := some 88) (v := ?_) (a' := ?_) #[true, true, true, true, true, true, true, true, true, true, true, true, true, false, false, false, false, false, false, false, false, false, false, false, false, false, false, false, false] rfl rfl (by kernel_rfl) (fun _ _ _ h => h) (Or.inl ⟨by rfl, ?_⟩) ?_ ?_
  rotate_left
  · intro w'
    go_simp
    with_reducible rfl
  rotate_left
  · simp only [Act.put, List.setIfInBounds_toArray, List.set_cons_zero, List.set_cons_succ, i64_w, i32_w]
    rfl
  refine pure_ (i := 13) (N := some 89) (v := ?_) (a' := ?_) #[true, true, true, true, true, true, true, true, true, true, true, true, true, true, false, false, false, false, false, false, false, false, false, false, false, false, false, false, false] rfl rfl (by kernel_rfl) (fun _ _ _ h => h) (Or.inl ⟨by rfl, ?_⟩) ?_ ?_
  rotate_left
  · intro w'
    go_simp
    with_reducible rfl
  rotate_left
  · simp only [Act.put, List.setIfInBounds_toArray, List.set_cons_zero, List.set_cons_succ, i64_w, i32_w]
    rfl
  refine pure_ (i := 14) (N := some 90) (v := ?_) (a' := ?_) #[true, true, true, true, true, true, true, true, true, true, true, true, true, true, true, false, false, false, false, false, false, false, false, false, false, false, false, false, false] rfl rfl (by kernel_rfl) (fun _ _ _ h => h) (Or.inl ⟨by rfl, ?_⟩) ?_ ?_
  rotate_left
  · intro w'
    go_simp
    with_reducible rfl
  rotate_left
  · simp only [Act.put, List.setIfInBounds_toArray, List.set_cons_zero, List.set_cons_succ, i64_w, i32_w]
    rfl
  refine pure_ (i := 15) (N := some 91) (v := ?_) (a' := ?_) #[true, true, true, true, true, true, true, true, true, true, true, true, true, true, true, true, false, false, false, false, false, false, false, false, false, false, false, false, false] rfl rfl (by kernel_rfl) (fun _ _ _ h => h) (Or.inl ⟨by rfl, ?_⟩) ?_ ?_
  rotate_left
  · intro w'
    go_simp
    with_reducible rfl
  rotate_left
  · simp only [Act.put, List.setIfInBounds_toArray, List.set_cons_zero, List.set_cons_succ, i64_w, i32_w]
    rfl
  refine pure_ (i := 18) (N := some 94) (v := ?_) (a' := ?_) #[true, true, true, true, true, true, true, true, true, true, true, true, true, true, true, true, false, false, true, false, false, false, false, false, false, false, false, false, false] rfl rfl (by kernel_rfl) (fun _ _ _ h => h) (Or.inl ⟨by rfl, ?_⟩) ?_ ?_
  rotate_left
  · intro w'
    go_simp
    with_reducible rfl
  rotate_left
  · simp only [Act.put, List.setIfInBounds_toArray, List.set_cons_zero, List.set_cons_succ, i64_w, i32_w]
    rfl
  refine pure_ (i := 19) (N := some 95) (v := ?_) (a' := ?_) #[true, true, true, true, true, true, true, true, true, true, true, true, true, true, true, true, false, false, true, true, false, false, false, false, false, false, false, false, false] rfl rfl (by kernel_rfl) (fun _ _ _ h => h) (Or.inl ⟨by rfl, ?_⟩) ?_ ?_
  rotate_left
  · intro w'
    go_simp
    with_reducible rfl
  rotate_left
  · simp only [Act.put, List.setIfInBounds_toArray, List.set_cons_zero, List.set_cons_succ, i64_w, i32_w]
    rfl
  refine pure_ (i := 20) (N := some 96) (v := ?_) (a' := ?_) #[true, true, true, true, true, true, true, true, true, true, true, true, true, true, true, true, false, false, true, true, true, false, false, false, false, false, false, false, false] rfl rfl (by kernel_rfl) (fun _ _ _ h => h) (Or.inl ⟨by rfl, ?_⟩) ?_ ?_
  rotate_left
  · intro w'
    go_simp
    with_reducible rfl
  rotate_left
  · simp only [Act.put, List.setIfInBounds_toArray, List.set_cons_zero, List.set_cons_succ, i64_w, i32_w]
    rfl
  refine take_ (i := 16) (N := some 92) (v := ?_) (a' := ?_) #[true, true, true, true, true, true, true, true, true, true, true, true, true, true, true, true, true, false, true, true, true, false, false, false, false, false, false, false, false] rfl rfl (by kernel_rfl) (fun _ _ _ h => h) (Or.inl ⟨by rfl, ?_⟩) hHeld ?_ ?_
  rotate_left
  · rintro w' ⟨s0, s1, s2, s3, s4, s5, s6, s7, s8, s9, s10, s11, s12, s13, s14, s15⟩
    go_simp
    with_reducible rfl
  rotate_left
  · simp only [Act.put, List.setIfInBounds_toArray, List.set_cons_zero, List.set_cons_succ, i64_w, i32_w]
    rfl
  refine take_ (i := 17) (N := some 93) (v := ?_) (a' := ?_) #[true, true, true, true, true, true, true, true, true, true, true, true, true, true, true, true, true, true, true, true, true, false, false, false, false, false, false, false, false] rfl rfl (by kernel_rfl) (fun _ _ _ h => h) (Or.inl ⟨by rfl, ?_⟩) hHeld ?_ ?_
  rotate_left
  · rintro w' ⟨s0, s1, s2, s3, s4, s5, s6, s7, s8, s9, s10, s11, s12, s13, s14, s15⟩
    go_simp
    with_reducible rfl
  rotate_left
  · simp only [Act.put, List.setIfInBounds_toArray, List.set_cons_zero, List.set_cons_succ, i64_w, i32_w]
    rfl
  refine take_ (i := 21) (N := some 97) (v := ?_) (a' := ?_) #[true, true, true, true, true, true, true, true, true, true, true, true, true, true, true, true, true, true, true, true, true, true, false, false, false, false, false, false, false] rfl rfl (by kernel_rfl) (fun _ _ _ h => h) (Or.inl ⟨by rfl, ?_⟩) hHeld ?_ ?_
  rotate_left
  · rintro w' ⟨s0, s1, s2, s3, s4, s5, s6, s7, s8, s9, s10, s11, s12, s13, s14, s15⟩
    go_simp
    with_reducible rfl
  rotate_left
  · simp only [Act.put, List.setIfInBounds_toArray, List.set_cons_zero, List.set_cons_succ, i64_w, i32_w]
    rfl
  refine take_ (i := 22) (N := some 98) (v := ?_) (a' := ?_) #[true, true, true, true, true, true, true, true, true, true, true, true, true, true, true, true, true, true, true, true, true, true, true, false, false, false, false, false, false] rfl rfl (by kernel_rfl) (fun _ _ _ h => h) (Or.inl ⟨by rfl, ?_⟩) hHeld ?_ ?_
  rotate_left
  · rintro w' ⟨s0, s1, s2, s3, s4, s5, s6, s7, s8, s9, s10, s11, s12, s13, s14, s15⟩
    go_simp
    with_reducible rfl
  rotate_left
  · simp only [Act.put, List.setIfInBounds_toArray, List.set_cons_zero, List.set_cons_succ, i64_w, i32_w]
    rfl
  refine pure_ (i := 23) (N := some 99) (v := ?_) (a' := ?_) #[true, true, true, true, true, true, true, true, true, true, true, true, true, true, true, true, true, true, true, true, true, true, true, true, false, false, false, false, false] rfl rfl (by kernel_rfl) (fun _ _ _ h => h) (Or.inl ⟨by rfl, ?_⟩) ?_ ?_
  rotate_left
  · intro w'
    go_simp
    with_reducible rfl
  rotate_left
  · simp only [Act.put, List.setIfInBounds_toArray, List.set_cons_zero, List.set_cons_succ, i64_w, i32_w]
    rfl
  refine pure_ (i := 24) (N := some 100) (v := ?_) (a' := ?_) #[true, true, true, true, true, true, true, true, true, true, true, true, true, true, true, true, true, true, true, true, true, true, true, true, true, false, false, false, false] rfl rfl (by kernel_rfl) (fun _ _ _ h => h) (Or.inl ⟨by rfl, ?_⟩) ?_ ?_
  rotate_left
  · intro w'
    go_simp
    with_reducible rfl
  rotate_left
  · simp only [Act.put, List.setIfInBounds_toArray, List.set_cons_zero, List.set_cons_succ, i64_w, i32_w]
    rfl
  refine pure_ (i := 25) (N := some 101) (v := ?_) (a' := ?_) #[true, true, true, true, true, true, true, true, true, true, true, true, true, true, true, true, true, true, true, true, true, true, true, true, true, true, false, false, false] rfl rfl (by kernel_rfl) (fun _ _ _ h => h) (Or.inl ⟨by rfl, ?_⟩) ?_ ?_
  rotate_left
  · intro w'
    go_simp
    with_reducible rfl
  rotate_left
  · simp only [Act.put, List.setIfInBounds_toArray, List.set_cons_zero, List.set_cons_succ, i64_w, i32_w]
    rfl
  refine one_ (i := 26) (N := some 102) #[true, true, true, true, true, true, true, true, true, true, true, true, true, true, true, true, true, true, true, true, true, true, true, true, true, true, true, false, false] rfl rfl (by kernel_rfl) (by decide) (fun K hK => ?_)
  refine goes_ Try.func10 (by kernel_rfl) rfl #[] (by rfl) rfl rfl (by simp) ?_
  with_reducible refine (awakeB HX7.out).mono ?_
  rintro e w9 ⟨rfl, hE, hb⟩
  refine ⟨_, rfl, ?_⟩
  have HE9 := Aside0.mk hE
  have HT9 := Aside0.mk (HT7.out.step hb)
  clear hE hb
  refine hK.out _ _ ⟨(HE9.out.c (List.mem_cons_of_mem _ (List.mem_cons_of_mem _ List.mem_cons_self)) 0), (HE9.out.c (List.mem_cons_of_mem _ (List.mem_cons_of_mem _ List.mem_cons_self)) 1), (HE9.out.c (List.mem_cons_of_mem _ (List.mem_cons_of_mem _ List.mem_cons_self)) 2), (HE9.out.c List.mem_cons_self 0), (HE9.out.c List.mem_cons_self 1), (HE9.out.c List.mem_cons_self 2), (HE9.out.c (List.mem_cons_of_mem _ (List.mem_cons_of_mem _ (List.mem_cons_of_mem _ List.mem_cons_self))) 0), (HE9.out.c (List.mem_cons_of_mem _ (List.mem_cons_of_mem _ (List.mem_cons_of_mem _ List.mem_cons_self))) 1), (HE9.out.c (List.mem_cons_of_mem _ (List.mem_cons_of_mem _ (List.mem_cons_of_mem _ List.mem_cons_self))) 2), (HE9.out.c (List.mem_cons_of_mem _ List.mem_cons_self) 0), (HE9.out.c (List.mem_cons_of_mem _ List.mem_cons_self) 1), (HE9.out.c (List.mem_cons_of_mem _ List.mem_cons_self) 2), (blk_cell HT9.out.a.at_.box 0), (blk_cell HT9.out.b.at_.box 0), HT9.out.str_a, HT9.out.str_b⟩ (fun hHeld => ?_)
  clear hK K
  refine norm_ (a' := ?_) ?_ ?_
  rotate_left
  · show Act.put _ (some 102) _ = _
    simp only [Act.put, List.setIfInBounds_toArray, List.set_cons_zero, List.set_cons_succ, i64_w, i32_w]
    rfl
  refine pure_ (i := 27) (N := some 103) (v := ?_) (a' := ?_) #[true, true, true, true, true, true, true, true, true, true, true, true, true, true, true, true, true, true, true, true, true, true, true, true, true, true, true, true, false] rfl rfl (by kernel_rfl) (fun _ _ _ h => h) (Or.inl ⟨by rfl, ?_⟩) ?_ ?_
  rotate_left
  · intro w'
    go_simp
    with_reducible rfl
  rotate_left
  · simp only [Act.put, List.setIfInBounds_toArray, List.set_cons_zero, List.set_cons_succ, i64_w, i32_w]
    rfl
  refine pure_ (i := 28) (N := some 6) (v := ?_) (a' := ?_) #[true, true, true, true, true, true, true, true, true, true, true, true, true, true, true, true, true, true, true, true, true, true, true, true, true, true, true, true, true] rfl rfl (by kernel_rfl) (fun _ _ _ h => h) (Or.inl ⟨by rfl, ?_⟩) ?_ ?_
  rotate_left
  · intro w'
    go_simp
    with_reducible rfl
  rotate_left
  · simp only [Act.put, List.setIfInBounds_toArray, List.set_cons_zero, List.set_cons_succ, i64_w, i32_w]
    rfl
  refine done_ (by kernel_rfl) ?_

  go_wp2
  go_ret
  exact ⟨rfl, HE9.out.below⟩
set_option maxHeartbeats 8000000 in
set_option maxRecDepth 100000 in
theorem parts_join (A0 : Option Addr) (c0 : Nat) (code : List In) (pc : Int) (A2 : Option Addr) (c2 : Nat) (st : List Int) (A3 : Option Addr) (c3 : Nat) (ca : List Int) (mem : ByteArray) (a b : Int) (s2 s3 : St) (m2 m3 : Mem) (k t u : Int) (w : World) (hr0 : Kd.C kIn w A0 code.length code) (hc0 : code.length ≤ c0) (hr2 : Kd.C (Kd.int .i64) w A2 st.length st) (hc2 : st.length ≤ c2) (hr3 : Kd.C (Kd.int .i64) w A3 ca.length ca) (hc3 : ca.length ≤ c3) (hmem : mem.size ≤ 140737488355328) (hf : 0 ≤ a ∧ 0 ≤ b ∧ a ≤ 2000 ∧ b ≤ 2000) (hu : 0 ≤ u ∧ u ≤ 2000) (hm : mayP s3 code.length) (hra : runAll code ⟨pc, st, ca⟩ ⟨bytesOf mem, 0, 0⟩ a = ⟨s2, m2, 1, 0, a, 0⟩) (hrb : runAll code ⟨pc, st, ca⟩ ⟨bytesOf mem, 0, 0⟩ (a + b) = ⟨s3, m3, k, t, u + a, 0⟩) (hrc : runAll code s2 m2 b = ⟨s3, m3, k, t, u, 0⟩) :
    Calls Try.prog 4 #[.agg #[.slice A0 code.length c0, .int .i64 pc, .slice A2 st.length c2, .slice A3 ca.length c3, .string mem], .int .i64 a, .int .i64 b] w (BPost w true) := by
  have hu := Try.underlying25
  have hu2 := Try.underlying33
  have hu3 := Try.underlying27
  have HE0 := Aside0.mk ((LE.start w).boxed #[.slice A0 code.length c0, .int .i64 pc, .slice A2 st.length c2, .slice A3 ca.length c3, .string mem] 27 _ rfl (by decide))
  have H0 := Aside0.mk hr0
  have H2 := Aside0.mk hr2
  have H3 := Aside0.mk hr3
  have HC := Aside0.mk (And.intro hc0 (And.intro hc2 (And.intro hc3 hmem)))
  clear hr0 hr2 hr3 hc0 hc2 hc3 hmem
  have hu4 := Try.underlying43
  have HR1 := Aside0.mk hra
  have HR2 := Aside0.mk hrb
  have HR3 := Aside0.mk hrc
  have HL := Aside0.mk (show s3.st.length ≤ 4611686018427387904 ∧ s3.ca.length ≤ 4611686018427387904 from ⟨Nat.le_trans hm.2.2.1 (by decide), Nat.le_trans hm.2.2.2.1 (by decide)⟩)
  have eu : wrap64 (u + a) = u + a := by unfold wrap64; omega
  have t00 : decide (a < 0) = false := decide_eq_false (by omega)
  have t10 : decide (b < 0) = false := decide_eq_false (by omega)
  have t20 : decide (a > 2000) = false := decide_eq_false (by omega)
  have t21 : decide (2000 < a) = false := decide_eq_false (by omega)
  have t30 : decide (b > 2000) = false := decide_eq_false (by omega)
  have t31 : decide (2000 < b) = false := decide_eq_false (by omega)
  have ew : wrap64 (a + b) = a + b := by unfold wrap64; omega
  clear hu hm hra hrb hrc hf
  go_enter Try.func4, Try.ntmps4
  go_wp2
  have a4 := HE0.out.c List.mem_cons_self 4
  refine start_ (n := 8) (S := fun w' => w'.cell? ⟨w.heap.size, 4, none⟩ = some (.string mem)) (ds := []) #[false, false, false, false, false, false, false, false] (by kernel_rfl) rfl rfl (a4) (fun hHeld => ?_)
  refine pure_ (i := 0) (N := some 33) (v := ?_) (a' := ?_) #[true, false, false, false, false, false, false, false] rfl rfl (by kernel_rfl) (fun _ _ _ h => h) (Or.inl ⟨by rfl, ?_⟩) ?_ ?_
  rotate_left
  · intro w'
    go_simp
    with_reducible rfl
  rotate_left
  · simp only [Act.put, List.setIfInBounds_toArray, List.set_cons_zero, List.set_cons_succ, i64_w, i32_w]
    rfl
  refine pure_ (i := 3) (N := some 36) (v := ?_) (a' := ?_) #[true, false, false, true, false, false, false, false] rfl rfl (by kernel_rfl) (fun _ _ _ h => h) (Or.inl ⟨by rfl, ?_⟩) ?_ ?_
  rotate_left
  · intro w'
    go_simp
    with_reducible rfl
  rotate_left
  · simp only [Act.put, List.setIfInBounds_toArray, List.set_cons_zero, List.set_cons_succ, i64_w, i32_w]
    rfl
  refine take_ (i := 1) (N := some 34) (v := ?_) (a' := ?_) #[true, true, false, true, false, false, false, false] rfl rfl (by kernel_rfl) (fun _ _ _ h => h) (Or.inl ⟨by rfl, ?_⟩) hHeld ?_ ?_
  rotate_left
  · intro w' s0
    go_simp
    with_reducible rfl
  rotate_left
  · simp only [Act.put, List.setIfInBounds_toArray, List.set_cons_zero, List.set_cons_succ, i64_w, i32_w]
    rfl
  refine take_ (i := 4) (N := some 37) (v := ?_) (a' := ?_) #[true, true, false, true, true, false, false, false] rfl rfl (by kernel_rfl) (fun _ _ _ h => h) (Or.inl ⟨by rfl, ?_⟩) hHeld ?_ ?_
  rotate_left
  · intro w' s0
    go_simp
    with_reducible rfl
  rotate_left
  · simp only [Act.put, List.setIfInBounds_toArray, List.set_cons_zero, List.set_cons_succ, i64_w, i32_w]
    rfl
  refine one_ (i := 2) (N := some 35) #[true, true, true, true, true, false, false, false] rfl rfl (by kernel_rfl) (by decide) (fun K hK => ?_)
  refine goes_ Try.func11 (by kernel_rfl) rfl #[.string mem] (by rfl) rfl rfl (by simp only [List.map_toArray, List.map_cons, List.map_nil]; rfl) ?_
  with_reducible refine (fillB (HE0.out.step (below_drew (Below.refl _ _))) mem HC.out.2.2.2 (w.heap.size + 1) (by simp)).mono ?_
  rintro e w1 ⟨P0, k0_, rfl, hE, hM, hb, hv⟩
  refine ⟨_, rfl, ?_⟩
  have HE1 := Aside0.mk hE
  have HM1 := Aside0.mk hM
  clear hE hM hb hv
  refine hK.out _ _ ((HE1.out.c List.mem_cons_self 4)) (fun hHeld => ?_)
  clear hK K
  refine norm_ (a' := ?_) ?_ ?_
  rotate_left
  · show Act.put _ (some 35) _ = _
    simp only [Act.put, List.setIfInBounds_toArray, List.set_cons_zero, List.set_cons_succ, i64_w, i32_w]
    rfl
  refine one_ (i := 5) (N := some 38) #[true, true, true, true, true, true, false, false] rfl rfl (by kernel_rfl) (by decide) (fun K hK => ?_)
  refine goes_ Try.func11 (by kernel_rfl) rfl #[.string mem] (by rfl) rfl rfl (by simp only [List.map_toArray, List.map_cons, List.map_nil]; rfl) ?_
  with_reducible refine (fillB HE1.out mem HC.out.2.2.2 (w1.heap.size) rfl).mono ?_
  rintro e w2 ⟨Q0, l0_, rfl, hE, hM, hb, hv⟩
  refine ⟨_, rfl, ?_⟩
  have HE2 := Aside0.mk hE
  have HT2 := Aside0.mk (Two.mk' HM1.out hb hM hv)
  clear hE hM hb hv
  refine hK.out _ _ ((HE2.out.c List.mem_cons_self 4)) (fun hHeld => ?_)
  clear hK K
  refine norm_ (a' := ?_) ?_ ?_
  rotate_left
  · show Act.put _ (some 38) _ = _
    simp only [Act.put, List.setIfInBounds_toArray, List.set_cons_zero, List.set_cons_succ, i64_w, i32_w]
    rfl
  refine pure_ (i := 6) (N := some 7) (v := ?_) (a' := ?_) #[true, true, true, true, true, true, true, false] rfl rfl (by kernel_rfl) (fun _ _ _ h => h) (Or.inl ⟨by rfl, ?_⟩) ?_ ?_
  rotate_left
  · intro w'
    go_simp
    with_reducible rfl
  rotate_left
  · simp only [Act.put, List.setIfInBounds_toArray, List.set_cons_zero, List.set_cons_succ, i64_w, i32_w]
    rfl
  refine pure_ (i := 7) (N := some 8) (v := ?_) (a' := ?_) #[true, true, true, true, true, true, true, true] rfl rfl (by kernel_rfl) (fun _ _ _ h => h) (Or.inl ⟨by rfl, ?_⟩) ?_ ?_
  rotate_left
  · intro w'
    go_simp
    with_reducible rfl
  rotate_left
  · simp only [Act.put, List.setIfInBounds_toArray, List.set_cons_zero, List.set_cons_succ, i64_w, i32_w]
    rfl
  refine done_ (by kernel_rfl) ?_

  clear a4
  have a0 := HE2.out.c List.mem_cons_self 0
  have a1 := HE2.out.c List.mem_cons_self 1
  have a2 := HE2.out.c List.mem_cons_self 2
  have a3 := HE2.out.c List.mem_cons_self 3
  have a4 := HE2.out.c List.mem_cons_self 4
  go_wp2_with (first
    | (go_at_call 13; (with_reducible refine (runE (s := ⟨pc, st, ca⟩) HE2.out (Kd.C_below H0.out HE2.out.below) HC.out.1 (Kd.C_below H2.out HE2.out.below) (Kd.C_below H3.out HE2.out.below) HT2.out.a (far_in H0.out HT2.out.a) HR1.out).mono ?_); rintro e w3 ⟨B1, d1, B2, d2, v_, rfl, hE, hM, hmv, hf_⟩; try dsimp only at hE hM; obtain ⟨V1, k1_, rfl⟩ := own_slice hM.at_.row; have hE2 := hE.res (.int .i64 s2.pc) (.slice B1 s2.st.length d1) (.slice B2 s2.ca.length d2) (.int .i64 1) (.int .i64 0) (.int .i64 a); have HE3 := Aside0.mk hE2; have HT3 := Aside0.mk ((HT2.out.run_a hM hmv hf_).step (below_alloc (below_alloc (Below.refl _ _) (.cells #[.int .i64 s2.pc, .slice B1 s2.st.length d1, .slice B2 s2.ca.length d2] 25)) (.cells #[.int .i64 1, .int .i64 0, .int .i64 a] 33))); clear a0 a1 a2 a3 a4; have a0 := hE2.c (List.mem_cons_of_mem _ (List.mem_cons_of_mem _ List.mem_cons_self)) 0; have a1 := hE2.c (List.mem_cons_of_mem _ (List.mem_cons_of_mem _ List.mem_cons_self)) 1; have a2 := hE2.c (List.mem_cons_of_mem _ (List.mem_cons_of_mem _ List.mem_cons_self)) 2; have a3 := hE2.c (List.mem_cons_of_mem _ (List.mem_cons_of_mem _ List.mem_cons_self)) 3; have a4 := hE2.c (List.mem_cons_of_mem _ (List.mem_cons_of_mem _ List.mem_cons_self)) 4; have z1_0 := hE2.c List.mem_cons_self 0; have z1_1 := hE2.c List.mem_cons_self 1; have z1_2 := hE2.c List.mem_cons_self 2; have s1_0 := hE2.c (List.mem_cons_of_mem _ List.mem_cons_self) 0; have s1_1 := hE2.c (List.mem_cons_of_mem _ List.mem_cons_self) 1; have s1_2 := hE2.c (List.mem_cons_of_mem _ List.mem_cons_self) 2; clear hE hE2 hM hmv hf_)
    | (go_at_call 13; (with_reducible refine (runE (s := ⟨pc, st, ca⟩) HE3.out (Kd.C_below H0.out HE3.out.below) HC.out.1 (Kd.C_below H2.out HE3.out.below) (Kd.C_below H3.out HE3.out.below) HT3.out.b (far_in H0.out HT3.out.b) HR2.out).mono ?_); rintro e w4 ⟨D1, e1, D2, e2, v_, rfl, hE, hM, hmv, hf_⟩; try dsimp only at hE hM; obtain ⟨V2, k2_, rfl⟩ := own_slice hM.at_.row; have hE2 := hE.res (.int .i64 s3.pc) (.slice D1 s3.st.length e1) (.slice D2 s3.ca.length e2) (.int .i64 k) (.int .i64 t) (.int .i64 (u + a)); have HE4 := Aside0.mk hE2; have HT4 := Aside0.mk ((HT3.out.run_b hM hmv hf_).step (below_alloc (below_alloc (Below.refl _ _) (.cells #[.int .i64 s3.pc, .slice D1 s3.st.length e1, .slice D2 s3.ca.length e2] 25)) (.cells #[.int .i64 k, .int .i64 t, .int .i64 (u + a)] 33))); clear a0 a1 a2 a3 a4 z1_0 s1_0 z1_1 s1_1 z1_2 s1_2; have a0 := hE2.c (List.mem_cons_of_mem _ (List.mem_cons_of_mem _ (List.mem_cons_of_mem _ (List.mem_cons_of_mem _ List.mem_cons_self)))) 0; have a1 := hE2.c (List.mem_cons_of_mem _ (List.mem_cons_of_mem _ (List.mem_cons_of_mem _ (List.mem_cons_of_mem _ List.mem_cons_self)))) 1; have a2 := hE2.c (List.mem_cons_of_mem _ (List.mem_cons_of_mem _ (List.mem_cons_of_mem _ (List.mem_cons_of_mem _ List.mem_cons_self)))) 2; have a3 := hE2.c (List.mem_cons_of_mem _ (List.mem_cons_of_mem _ (List.mem_cons_of_mem _ (List.mem_cons_of_mem _ List.mem_cons_self)))) 3; have a4 := hE2.c (List.mem_cons_of_mem _ (List.mem_cons_of_mem _ (List.mem_cons_of_mem _ (List.mem_cons_of_mem _ List.mem_cons_self)))) 4; have z2_0 := hE2.c List.mem_cons_self 0; have z2_1 := hE2.c List.mem_cons_self 1; have z2_2 := hE2.c List.mem_cons_self 2; have s2_0 := hE2.c (List.mem_cons_of_mem _ List.mem_cons_self) 0; have s2_1 := hE2.c (List.mem_cons_of_mem _ List.mem_cons_self) 1; have s2_2 := hE2.c (List.mem_cons_of_mem _ List.mem_cons_self) 2; have z1_0 := hE2.c (List.mem_cons_of_mem _ (List.mem_cons_of_mem _ List.mem_cons_self)) 0; have z1_1 := hE2.c (List.mem_cons_of_mem _ (List.mem_cons_of_mem _ List.mem_cons_self)) 1; have z1_2 := hE2.c (List.mem_cons_of_mem _ (List.mem_cons_of_mem _ List.mem_cons_self)) 2; have s1_0 := hE2.c (List.mem_cons_of_mem _ (List.mem_cons_of_mem _ (List.mem_cons_of_mem _ List.mem_cons_self))) 0; have s1_1 := hE2.c (List.mem_cons_of_mem _ (List.mem_cons_of_mem _ (List.mem_cons_of_mem _ List.mem_cons_self))) 1; have s1_2 := hE2.c (List.mem_cons_of_mem _ (List.mem_cons_of_mem _ (List.mem_cons_of_mem _ List.mem_cons_self))) 2; clear hE hE2 hM hmv hf_)
    | (go_at_call 13; (with_reducible refine (runE (s := s2) HE4.out (Kd.C_below H0.out HE4.out.below) HC.out.1 (HE4.out.r (List.mem_cons_of_mem _ (List.mem_cons_of_mem _ List.mem_cons_self))).1 (HE4.out.r (List.mem_cons_of_mem _ (List.mem_cons_of_mem _ (List.mem_cons_of_mem _ List.mem_cons_self)))).1 HT4.out.a (far_in H0.out HT4.out.a) HR3.out).mono ?_); rintro e w5 ⟨F1, g1, F2, g2, v_, rfl, hE, hM, hmv, hf_⟩; try dsimp only at hE hM; obtain ⟨V3, k3_, rfl⟩ := own_slice hM.at_.row; have hE2 := hE.res (.int .i64 s3.pc) (.slice F1 s3.st.length g1) (.slice F2 s3.ca.length g2) (.int .i64 k) (.int .i64 t) (.int .i64 (u + a)); have HE5 := Aside0.mk hE2; have HT5 := Aside0.mk ((HT4.out.run_a hM hmv hf_).step (below_alloc (below_alloc (Below.refl _ _) (.cells #[.int .i64 s3.pc, .slice F1 s3.st.length g1, .slice F2 s3.ca.length g2] 25)) (.cells #[.int .i64 k, .int .i64 t, .int .i64 (u + a)] 33))); clear a0 a1 a2 a3 a4 z1_0 s1_0 z1_1 s1_1 z1_2 s1_2 z2_0 s2_0 z2_1 s2_1 z2_2 s2_2; have a0 := hE2.c (List.mem_cons_of_mem _ (List.mem_cons_of_mem _ (List.mem_cons_of_mem _ (List.mem_cons_of_mem _ (List.mem_cons_of_mem _ (List.mem_cons_of_mem _ List.mem_cons_self)))))) 0; have a1 := hE2.c (List.mem_cons_of_mem _ (List.mem_cons_of_mem _ (List.mem_cons_of_mem _ (List.mem_cons_of_mem _ (List.mem_cons_of_mem _ (List.mem_cons_of_mem _ List.mem_cons_self)))))) 1; have a2 := hE2.c (List.mem_cons_of_mem _ (List.mem_cons_of_mem _ (List.mem_cons_of_mem _ (List.mem_cons_of_mem _ (List.mem_cons_of_mem _ (List.mem_cons_of_mem _ List.mem_cons_self)))))) 2; have a3 := hE2.c (List.mem_cons_of_mem _ (List.mem_cons_of_mem _ (List.mem_cons_of_mem _ (List.mem_cons_of_mem _ (List.mem_cons_of_mem _ (List.mem_cons_of_mem _ List.mem_cons_self)))))) 3; have a4 := hE2.c (List.mem_cons_of_mem _ (List.mem_cons_of_mem _ (List.mem_cons_of_mem _ (List.mem_cons_of_mem _ (List.mem_cons_of_mem _ (List.mem_cons_of_mem _ List.mem_cons_self)))))) 4; have z3_0 := hE2.c List.mem_cons_self 0; have z3_1 := hE2.c List.mem_cons_self 1; have z3_2 := hE2.c List.mem_cons_self 2; have s3_0 := hE2.c (List.mem_cons_of_mem _ List.mem_cons_self) 0; have s3_1 := hE2.c (List.mem_cons_of_mem _ List.mem_cons_self) 1; have s3_2 := hE2.c (List.mem_cons_of_mem _ List.mem_cons_self) 2; have z2_0 := hE2.c (List.mem_cons_of_mem _ (List.mem_cons_of_mem _ List.mem_cons_self)) 0; have z2_1 := hE2.c (List.mem_cons_of_mem _ (List.mem_cons_of_mem _ List.mem_cons_self)) 1; have z2_2 := hE2.c (List.mem_cons_of_mem _ (List.mem_cons_of_mem _ List.mem_cons_self)) 2; have s2_0 := hE2.c (List.mem_cons_of_mem _ (List.mem_cons_of_mem _ (List.mem_cons_of_mem _ List.mem_cons_self))) 0; have s2_1 := hE2.c (List.mem_cons_of_mem _ (List.mem_cons_of_mem _ (List.mem_cons_of_mem _ List.mem_cons_self))) 1; have s2_2 := hE2.c (List.mem_cons_of_mem _ (List.mem_cons_of_mem _ (List.mem_cons_of_mem _ List.mem_cons_self))) 2; have z1_0 := hE2.c (List.mem_cons_of_mem _ (List.mem_cons_of_mem _ (List.mem_cons_of_mem _ (List.mem_cons_of_mem _ List.mem_cons_self)))) 0; have z1_1 := hE2.c (List.mem_cons_of_mem _ (List.mem_cons_of_mem _ (List.mem_cons_of_mem _ (List.mem_cons_of_mem _ List.mem_cons_self)))) 1; have z1_2 := hE2.c (List.mem_cons_of_mem _ (List.mem_cons_of_mem _ (List.mem_cons_of_mem _ (List.mem_cons_of_mem _ List.mem_cons_self)))) 2; have s1_0 := hE2.c (List.mem_cons_of_mem _ (List.mem_cons_of_mem _ (List.mem_cons_of_mem _ (List.mem_cons_of_mem _ (List.mem_cons_of_mem _ List.mem_cons_self))))) 0; have s1_1 := hE2.c (List.mem_cons_of_mem _ (List.mem_cons_of_mem _ (List.mem_cons_of_mem _ (List.mem_cons_of_mem _ (List.mem_cons_of_mem _ List.mem_cons_self))))) 1; have s1_2 := hE2.c (List.mem_cons_of_mem _ (List.mem_cons_of_mem _ (List.mem_cons_of_mem _ (List.mem_cons_of_mem _ (List.mem_cons_of_mem _ List.mem_cons_self))))) 2; clear hE hE2 hM hmv hf_))
  have HX := Aside0.mk (HE5.out.step (below_drew (Below.refl _ _)))
  have HT := Aside0.mk (HT5.out.step (below_drew (Below.refl _ _)))
  have hp0 := blk_cell HT.out.a.at_.box 0
  have hq0 := blk_cell HT.out.b.at_.box 0
  refine start_ (n := 33) (S := fun w' => w'.cell? ⟨w4.heap.size + 1, 0, none⟩ = some (.int .i64 k) ∧ w'.cell? ⟨w4.heap.size + 1, 1, none⟩ = some (.int .i64 t) ∧ w'.cell? ⟨w4.heap.size + 1, 2, none⟩ = some (.int .i64 (u + a)) ∧ w'.cell? ⟨w5.heap.size + 1, 0, none⟩ = some (.int .i64 k) ∧ w'.cell? ⟨w5.heap.size + 1, 1, none⟩ = some (.int .i64 t) ∧ w'.cell? ⟨w5.heap.size + 1, 2, none⟩ = some (.int .i64 (u + a)) ∧ w'.cell? ⟨w4.heap.size, 0, none⟩ = some (.int .i64 s3.pc) ∧ w'.cell? ⟨w4.heap.size, 1, none⟩ = some (.slice D1 s3.st.length e1) ∧ w'.cell? ⟨w4.heap.size, 2, none⟩ = some (.slice D2 s3.ca.length e2) ∧ w'.cell? ⟨w5.heap.size, 0, none⟩ = some (.int .i64 s3.pc) ∧ w'.cell? ⟨w5.heap.size, 1, none⟩ = some (.slice F1 s3.st.length g1) ∧ w'.cell? ⟨w5.heap.size, 2, none⟩ = some (.slice F2 s3.ca.length g2) ∧ w'.cell? ⟨w.heap.size + 1, 0, none⟩ = some (.slice V3 m3.b.length k3_) ∧ w'.cell? ⟨w1.heap.size, 0, none⟩ = some (.slice V2 m3.b.length k2_) ∧ (convert 37 9 (.slice V3 m3.b.length k3_)).run Try.prog w' = .ok (.string (strOfNums m3.b)) w' ∧ (convert 37 9 (.slice V2 m3.b.length k2_)).run Try.prog w' = .ok (.string (strOfNums m3.b)) w') (ds := []) #[false, false, false, false, false, false, false, false, false, false, false, false, false, false, false, false, false, false, false, false, false, false, false, false, false, false, false, false, false, false, false, false, false] (by kernel_rfl) rfl rfl ⟨(HX.out.c (List.mem_cons_of_mem _ (List.mem_cons_of_mem _ List.mem_cons_self)) 0), (HX.out.c (List.mem_cons_of_mem _ (List.mem_cons_of_mem _ List.mem_cons_self)) 1), (HX.out.c (List.mem_cons_of_mem _ (List.mem_cons_of_mem _ List.mem_cons_self)) 2), (HX.out.c List.mem_cons_self 0), (HX.out.c List.mem_cons_self 1), (HX.out.c List.mem_cons_self 2), (HX.out.c (List.mem_cons_of_mem _ (List.mem_cons_of_mem _ (List.mem_cons_of_mem _ List.mem_cons_self))) 0), (HX.out.c (List.mem_cons_of_mem _ (List.mem_cons_of_mem _ (List.mem_cons_of_mem _ List.mem_cons_self))) 1), (HX.out.c (List.mem_cons_of_mem _ (List.mem_cons_of_mem _ (List.mem_cons_of_mem _ List.mem_cons_self))) 2), (HX.out.c (List.mem_cons_of_mem _ List.mem_cons_self) 0), (HX.out.c (List.mem_cons_of_mem _ List.mem_cons_self) 1), (HX.out.c (List.mem_cons_of_mem _ List.mem_cons_self) 2), (blk_cell HT.out.a.at_.box 0), (blk_cell HT.out.b.at_.box 0), HT.out.str_a, HT.out.str_b⟩ (fun hHeld => ?_)
  refine pure_ (i := 0) (N := some 120) (v := ?_) (a' := ?_) #[true, false, false, false, false, false, false, false, false, false, false, false, false, false, false, false, false, false, false, false, false, false, false, false, false, false, false, false, false, false, false, false, false] rfl rfl (by kernel_rfl) (fun _ _ _ h => h) (Or.inl ⟨by rfl, ?_⟩) ?_ ?_
  rotate_left
  · intro w'
    go_simp
    with_reducible rfl
  rotate_left
  · simp only [Act.put, List.setIfInBounds_toArray, List.set_cons_zero, List.set_cons_succ, i64_w, i32_w]
    rfl
  refine pure_ (i := 1) (N := some 121) (v := ?_) (a' := ?_) #[true, true, false, false, false, false, false, false, false, false, false, false, false, false, false, false, false, false, false, false, false, false, false, false, false, false, false, false, false, false, false, false, false] rfl rfl (by kernel_rfl) (fun _ _ _ h => h) (Or.inl ⟨by rfl, ?_⟩) ?_ ?_
  rotate_left
  · intro w'
    go_simp
    with_reducible rfl
  rotate_left
  · simp only [Act.put, List.setIfInBounds_toArray, List.set_cons_zero, List.set_cons_succ, i64_w, i32_w]
    rfl
  refine pure_ (i := 2) (N := some 122) (v := ?_) (a' := ?_) #[true, true, true, false, false, false, false, false, false, false, false, false, false, false, false, false, false, false, false, false, false, false, false, false, false, false, false, false, false, false, false, false, false] rfl rfl (by kernel_rfl) (fun _ _ _ h => h) (Or.inl ⟨by rfl, ?_⟩) ?_ ?_
  rotate_left
  · intro w'
    go_simp
    with_reducible rfl
  rotate_left
  · simp only [Act.put, List.setIfInBounds_toArray, List.set_cons_zero, List.set_cons_succ, i64_w, i32_w]
    rfl
  refine pure_ (i := 3) (N := some 123) (v := ?_) (a' := ?_) #[true, true, true, true, false, false, false, false, false, false, false, false, false, false, false, false, false, false, false, false, false, false, false, false, false, false, false, false, false, false, false, false, false] rfl rfl (by kernel_rfl) (fun _ _ _ h => h) (Or.inl ⟨by rfl, ?_⟩) ?_ ?_
  rotate_left
  · intro w'
    go_simp
    with_reducible rfl
  rotate_left
  · simp only [Act.put, List.setIfInBounds_toArray, List.set_cons_zero, List.set_cons_succ, i64_w, i32_w]
    rfl
  refine pure_ (i := 4) (N := some 124) (v := ?_) (a' := ?_) #[true, true, true, true, true, false, false, false, false, false, false, false, false, false, false, false, false, false, false, false, false, false, false, false, false, false, false, false, false, false, false, false, false] rfl rfl (by kernel_rfl) (fun _ _ _ h => h) (Or.inl ⟨by rfl, ?_⟩) ?_ ?_
  rotate_left
  · intro w'
    go_simp
    with_reducible rfl
  rotate_left
  · simp only [Act.put, List.setIfInBounds_toArray, List.set_cons_zero, List.set_cons_succ, i64_w, i32_w]
    rfl
  refine pure_ (i := 5) (N := some 125) (v := ?_) (a' := ?_) #[true, true, true, true, true, true, false, false, false, false, false, false, false, false, false, false, false, false, false, false, false, false, false, false, false, false, false, false, false, false, false, false, false] rfl rfl (by kernel_rfl) (fun _ _ _ h => h) (Or.inl ⟨by rfl, ?_⟩) ?_ ?_
  rotate_left
  · intro w'
    go_simp
    with_reducible rfl
  rotate_left
  · simp only [Act.put, List.setIfInBounds_toArray, List.set_cons_zero, List.set_cons_succ, i64_w, i32_w]
    rfl
  refine pure_ (i := 6) (N := some 126) (v := ?_) (a' := ?_) #[true, true, true, true, true, true, true, false, false, false, false, false, false, false, false, false, false, false, false, false, false, false, false, false, false, false, false, false, false, false, false, false, false] rfl rfl (by kernel_rfl) (fun _ _ _ h => h) (Or.inl ⟨by rfl, ?_⟩) ?_ ?_
  rotate_left
  · intro w'
    go_simp
    with_reducible rfl
  rotate_left
  · simp only [Act.put, List.setIfInBounds_toArray, List.set_cons_zero, List.set_cons_succ, i64_w, i32_w]
    rfl
  refine take_ (i := 7) (N := some 127) (v := ?_) (a' := ?_) #[true, true, true, true, true, true, true, true, false, false, false, false, false, false, false, false, false, false, false, false, false, false, false, false, false, false, false, false, false, false, false, false, false] rfl rfl (by kernel_rfl) (fun _ _ _ h => h) (Or.inl ⟨by rfl, ?_⟩) hHeld ?_ ?_
  rotate_left
  · rintro w' ⟨s0, s1, s2, s3, s4, s5, s6, s7, s8, s9, s10, s11, s12, s13, s14, s15⟩
    go_simp
    with_reducible rfl
  rotate_left
  · simp only [Act.put, List.setIfInBounds_toArray, List.set_cons_zero, List.set_cons_succ, i64_w, i32_w]
    rfl
  refine take_ (i := 8) (N := some 128) (v := ?_) (a' := ?_) #[true, true, true, true, true, true, true, true, true, false, false, false, false, false, false, false, false, false, false, false, false, false, false, false, false, false, false, false, false, false, false, false, false] rfl rfl (by kernel_rfl) (fun _ _ _ h => h) (Or.inl ⟨by rfl, ?_⟩) hHeld ?_ ?_
  rotate_left
  · rintro w' ⟨s0, s1, s2, s3, s4, s5, s6, s7, s8, s9, s10, s11, s12, s13, s14, s15⟩
    go_simp
    with_reducible rfl
  rotate_left
  · simp only [Act.put, List.setIfInBounds_toArray, List.set_cons_zero, List.set_cons_succ, i64_w, i32_w]
    rfl
  refine pure_ (i := 9) (N := some 129) (v := ?_) (a' := ?_) #[true, true, true, true, true, true, true, true, true, true, false, false, false, false, false, false, false, false, false, false, false, false, false, false, false, false, false, false, false, false, false, false, false] rfl rfl (by kernel_rfl) (fun _ _ _ h => h) (Or.inl ⟨by rfl, ?_⟩) ?_ ?_
  rotate_left
  · intro w'
    go_simp
    with_reducible rfl
  rotate_left
  · simp only [Act.put, List.setIfInBounds_toArray, List.set_cons_zero, List.set_cons_succ, i64_w, i32_w]
    rfl
  refine pure_ (i := 10) (N := some 130) (v := ?_) (a' := ?_) #[true, true, true, true, true, true, true, true, true, true, true, false, false, false, false, false, false, false, false, false, false, false, false, false, false, false, false, false, false, false, false, false, false] rfl rfl (by kernel_rfl) (fun _ _ _ h => h) (Or.inl ⟨by rfl, ?_⟩) ?_ ?_
  rotate_left
  · intro w'
    go_simp
    with_reducible rfl
  rotate_left
  · simp only [Act.put, List.setIfInBounds_toArray, List.set_cons_zero, List.set_cons_succ, i64_w, i32_w]
    rfl
  refine pure_ (i := 11) (N := some 131) (v := ?_) (a' := ?_) #[true, true, true, true, true, true, true, true, true, true, true, true, false, false, false, false, false, false, false, false, false, false, false, false, false, false, false, false, false, false, false, false, false] rfl rfl (by kernel_rfl) (fun _ _ _ h => h) (Or.inl ⟨by rfl, ?_⟩) ?_ ?_
  rotate_left
  · intro w'
    go_simp
    with_reducible rfl
  rotate_left
  · simp only [Act.put, List.setIfInBounds_toArray, List.set_cons_zero, List.set_cons_succ, i64_w, i32_w]
    rfl
  refine take_ (i := 12) (N := some 132) (v := ?_) (a' := ?_) #[true, true, true, true, true, true, true, true, true, true, true, true, true, false, false, false, false, false, false, false, false, false, false, false, false, false, false, false, false, false, false, false, false] rfl rfl (by kernel_rfl) (fun _ _ _ h => h) (Or.inl ⟨by rfl, ?_⟩) hHeld ?_ ?_
  rotate_left
  · rintro w' ⟨s0, s1, s2, s3, s4, s5, s6, s7, s8, s9, s10, s11, s12, s13, s14, s15⟩
    go_simp
    with_reducible rfl
  rotate_left
  · simp only [Act.put, List.setIfInBounds_toArray, List.set_cons_zero, List.set_cons_succ, i64_w, i32_w]
    rfl
  refine take_ (i := 13) (N := some 133) (v := ?_) (a' := ?_) #[true, true, true, true, true, true, true, true, true, true, true, true, true, true, false, false, false, false, false, false, false, false, false, false, false, false, false, false, false, false, false, false, false] rfl rfl (by kernel_rfl) (fun _ _ _ h => h) (Or.inl ⟨by rfl, ?_⟩) hHeld ?_ ?_
  rotate_left
  · rintro w' ⟨s0, s1, s2, s3, s4, s5, s6, s7, s8, s9, s10, s11, s12, s13, s14, s15⟩
    go_simp
    with_reducible rfl
  rotate_left
  · simp only [Act.put, List.setIfInBounds_toArray, List.set_cons_zero, List.set_cons_succ, i64_w, i32_w]
    rfl
  refine one_ (i := 14) (N := some 134) #[true, true, true, true, true, true, true, true, true, true, true, true, true, true, true, false, false, false, false, false, false, false, false, false, false, false, false, false, false, false, false, false, false] rfl rfl (by kernel_rfl) (by decide) (fun K hK => ?_)
  refine goes_ Try.func15 (by kernel_rfl) rfl #[.agg #[.int .i64 s3.pc, .slice D1 s3.st.length e1, .slice D2 s3.ca.length e2], .agg #[.int .i64 s3.pc, .slice F1 s3.st.length g1, .slice F2 s3.ca.length g2]] (by rfl) rfl rfl (by simp only [List.map_toArray, List.map_cons, List.map_nil]; rfl) ?_
  with_reducible refine (rsameB HX.out (HX.out.r (List.mem_cons_of_mem _ (List.mem_cons_of_mem _ List.mem_cons_self))) (HX.out.r (List.mem_cons_of_mem _ (List.mem_cons_of_mem _ (List.mem_cons_of_mem _ List.mem_cons_self)))) (HX.out.r List.mem_cons_self) (HX.out.r (List.mem_cons_of_mem _ List.mem_cons_self)) HL.out.1 HL.out.2 (decide_eq_true (stEq_refl s3))).mono ?_
  rintro e w7 ⟨rfl, hE, hb⟩
  refine ⟨_, rfl, ?_⟩
  have HX7 := Aside0.mk hE
  have HT7 := Aside0.mk (HT.out.step hb)
  clear hE hb
  refine hK.out _ _ ⟨(HX7.out.c (List.mem_cons_of_mem _ (List.mem_cons_of_mem _ List.mem_cons_self)) 0), (HX7.out.c (List.mem_cons_of_mem _ (List.mem_cons_of_mem _ List.mem_cons_self)) 1), (HX7.out.c (List.mem_cons_of_mem _ (List.mem_cons_of_mem _ List.mem_cons_self)) 2), (HX7.out.c List.mem_cons_self 0), (HX7.out.c List.mem_cons_self 1), (HX7.out.c List.mem_cons_self 2), (HX7.out.c (List.mem_cons_of_mem _ (List.mem_cons_of_mem _ (List.mem_cons_of_mem _ List.mem_cons_self))) 0), (HX7.out.c (List.mem_cons_of_mem _ (List.mem_cons_of_mem _ (List.mem_cons_of_mem _ List.mem_cons_self))) 1), (HX7.out.c (List.mem_cons_of_mem _ (List.mem_cons_of_mem _ (List.mem_cons_of_mem _ List.mem_cons_self))) 2), (HX7.out.c (List.mem_cons_of_mem _ List.mem_cons_self) 0), (HX7.out.c (List.mem_cons_of_mem _ List.mem_cons_self) 1), (HX7.out.c (List.mem_cons_of_mem _ List.mem_cons_self) 2), (blk_cell HT7.out.a.at_.box 0), (blk_cell HT7.out.b.at_.box 0), HT7.out.str_a, HT7.out.str_b⟩ (fun hHeld => ?_)
  clear hK K
  refine norm_ (a' := ?_) ?_ ?_
  rotate_left
  · show Act.put _ (some 134) _ = _
    simp only [Act.put, List.setIfInBounds_toArray, List.set_cons_zero, List.set_cons_succ, i64_w, i32_w]
    rfl
  refine pure_ (i := 15) (N := some 135) (v := ?_) (a' := ?_) #[true, true, true, true, true, true, true, true, true, true, true, true, true, true, true, true, false, false, false, false, false, false, false, false, false, false, false, false, false, false, false, false, false] rfl rfl (by kernel_rfl) (fun _ _ _ h => h) (Or.inl ⟨by rfl, ?_⟩) ?_ ?_
  rotate_left
  · intro w'
    go_simp
    with_reducible rfl
  rotate_left
  · simp only [Act.put, List.setIfInBounds_toArray, List.set_cons_zero, List.set_cons_succ, i64_w, i32_w]
    rfl
  refine pure_ (i := 16) (N := some 136) (v := ?_) (a' := ?_) #[true, true, true, true, true, true, true, true, true, true, true, true, true, true, true, true, true, false, false, false, false, false, false, false, false, false, false, false, false, false, false, false, false] rfl rfl (by kernel_rfl) (fun _ _ _ h => h) (Or.inl ⟨by rfl, ?_⟩) ?_ ?_
  rotate_left
  · intro w'
    go_simp
    with_reducible rfl
  rotate_left
  · simp only [Act.put, List.setIfInBounds_toArray, List.set_cons_zero, List.set_cons_succ, i64_w, i32_w]
    rfl
  refine pure_ (i := 17) (N := some 137) (v := ?_) (a' := ?_) #[true, true, true, true, true, true, true, true, true, true, true, true, true, true, true, true, true, true, false, false, false, false, false, false, false, false, false, false, false, false, false, false, false] rfl rfl (by kernel_rfl) (fun _ _ _ h => h) (Or.inl ⟨by rfl, ?_⟩) ?_ ?_
  rotate_left
  · intro w'
    go_simp
    with_reducible rfl
  rotate_left
  · simp only [Act.put, List.setIfInBounds_toArray, List.set_cons_zero, List.set_cons_succ, i64_w, i32_w]
    rfl
  refine pure_ (i := 18) (N := some 138) (v := ?_) (a' := ?_) #[true, true, true, true, true, true, true, true, true, true, true, true, true, true, true, true, true, true, true, false, false, false, false, false, false, false, false, false, false, false, false, false, false] rfl rfl (by kernel_rfl) (fun _ _ _ h => h) (Or.inl ⟨by rfl, ?_⟩) ?_ ?_
  rotate_left
  · intro w'
    go_simp
    with_reducible rfl
  rotate_left
  · simp only [Act.put, List.setIfInBounds_toArray, List.set_cons_zero, List.set_cons_succ, i64_w, i32_w]
    rfl
  refine pure_ (i := 19) (N := some 139) (v := ?_) (a' := ?_) #[true, true, true, true, true, true, true, true, true, true, true, true, true, true, true, true, true, true, true, true, false, false, false, false, false, false, false, false, false, false, false, false, false] rfl rfl (by kernel_rfl) (fun _ _ _ h => h) (Or.inl ⟨by rfl, ?_⟩) ?_ ?_
  rotate_left
  · intro w'
    go_simp
    with_reducible rfl
  rotate_left
  · simp only [Act.put, List.setIfInBounds_toArray, List.set_cons_zero, List.set_cons_succ, i64_w, i32_w]
    rfl
  refine pure_ (i := 22) (N := some 142) (v := ?_) (a' := ?_) #[true, true, true, true, true, true, true, true, true, true, true, true, true, true, true, true, true, true, true, true, false, false, true, false, false, false, false, false, false, false, false, false, false] rfl rfl (by kernel_rfl) (fun _ _ _ h => h) (Or.inl ⟨by rfl, ?_⟩) ?_ ?_
  rotate_left
  · intro w'
    go_simp
    with_reducible rfl
  rotate_left
  · simp only [Act.put, List.setIfInBounds_toArray, List.set_cons_zero, List.set_cons_succ, i64_w, i32_w]
    rfl
  refine pure_ (i := 23) (N := some 143) (v := ?_) (a' := ?_) #[true, true, true, true, true, true, true, true, true, true, true, true, true, true, true, true, true, true, true, true, false, false, true, true, false, false, false, false, false, false, false, false, false] rfl rfl (by kernel_rfl) (fun _ _ _ h => h) (Or.inl ⟨by rfl, ?_⟩) ?_ ?_
  rotate_left
  · intro w'
    go_simp
    with_reducible rfl
  rotate_left
  · simp only [Act.put, List.setIfInBounds_toArray, List.set_cons_zero, List.set_cons_succ, i64_w, i32_w]
    rfl
  refine pure_ (i := 24) (N := some 144) (v := ?_) (a' := ?_) #[true, true, true, true, true, true, true, true, true, true, true, true, true, true, true, true, true, true, true, true, false, false, true, true, true, false, false, false, false, false, false, false, false] rfl rfl (by kernel_rfl) (fun _ _ _ h => h) (Or.inl ⟨by rfl, ?_⟩) ?_ ?_
  rotate_left
  · intro w'
    go_simp
    with_reducible rfl
  rotate_left
  · simp only [Act.put, List.setIfInBounds_toArray, List.set_cons_zero, List.set_cons_succ, i64_w, i32_w]
    rfl
  refine take_ (i := 20) (N := some 140) (v := ?_) (a' := ?_) #[true, true, true, true, true, true, true, true, true, true, true, true, true, true, true, true, true, true, true, true, true, false, true, true, true, false, false, false, false, false, false, false, false] rfl rfl (by kernel_rfl) (fun _ _ _ h => h) (Or.inl ⟨by rfl, ?_⟩) hHeld ?_ ?_
  rotate_left
  · rintro w' ⟨s0, s1, s2, s3, s4, s5, s6, s7, s8, s9, s10, s11, s12, s13, s14, s15⟩
    go_simp
    with_reducible rfl
  rotate_left
  · simp only [Act.put, List.setIfInBounds_toArray, List.set_cons_zero, List.set_cons_succ, i64_w, i32_w]
    rfl
  refine take_ (i := 21) (N := some 141) (v := ?_) (a' := ?_) #[true, true, true, true, true, true, true, true, true, true, true, true, true, true, true, true, true, true, true, true, true, true, true, true, true, false, false, false, false, false, false, false, false] rfl rfl (by kernel_rfl) (fun _ _ _ h => h) (Or.inl ⟨by rfl, ?_⟩) hHeld ?_ ?_
  rotate_left
  · rintro w' ⟨s0, s1, s2, s3, s4, s5, s6, s7, s8, s9, s10, s11, s12, s13, s14, s15⟩
    go_simp
    with_reducible rfl
  rotate_left
  · simp only [Act.put, List.setIfInBounds_toArray, List.set_cons_zero, List.set_cons_succ, i64_w, i32_w]
    rfl
  refine take_ (i := 25) (N := some 145) (v := ?_) (a' := ?_) #[true, true, true, true, true, true, true, true, true, true, true, true, true, true, true, true, true, true, true, true, true, true, true, true, true, true, false, false, false, false, false, false, false] rfl rfl (by kernel_rfl) (fun _ _ _ h => h) (Or.inl ⟨by rfl, ?_⟩) hHeld ?_ ?_
  rotate_left
  · rintro w' ⟨s0, s1, s2, s3, s4, s5, s6, s7, s8, s9, s10, s11, s12, s13, s14, s15⟩
    go_simp
    with_reducible rfl
  rotate_left
  · simp only [Act.put, List.setIfInBounds_toArray, List.set_cons_zero, List.set_cons_succ, i64_w, i32_w]
    rfl
  refine take_ (i := 26) (N := some 146) (v := ?_) (a' := ?_) #[true, true, true, true, true, true, true, true, true, true, true, true, true, true, true, true, true, true, true, true, true, true, true, true, true, true, true, false, false, false, false, false, false] rfl rfl (by kernel_rfl) (fun _ _ _ h => h) (Or.inl ⟨by rfl, ?_⟩) hHeld ?_ ?_
  rotate_left
  · rintro w' ⟨s0, s1, s2, s3, s4, s5, s6, s7, s8, s9, s10, s11, s12, s13, s14, s15⟩
    go_simp
    with_reducible rfl
  rotate_left
  · simp only [Act.put, List.setIfInBounds_toArray, List.set_cons_zero, List.set_cons_succ, i64_w, i32_w]
    rfl
  refine pure_ (i := 27) (N := some 147) (v := ?_) (a' := ?_) #[true, true, true, true, true, true, true, true, true, true, true, true, true, true, true, true, true, true, true, true, true, true, true, true, true, true, true, true, false, false, false, false, false] rfl rfl (by kernel_rfl) (fun _ _ _ h => h) (Or.inl ⟨by rfl, ?_⟩) ?_ ?_
  rotate_left
  · intro w'
    go_simp
    with_reducible rfl
  rotate_left
  · simp only [Act.put, List.setIfInBounds_toArray, List.set_cons_zero, List.set_cons_succ, i64_w, i32_w]
    rfl
  refine pure_ (i := 28) (N := some 148) (v := ?_) (a' := ?_) #[true, true, true, true, true, true, true, true, true, true, true, true, true, true, true, true, true, true, true, true, true, true, true, true, true, true, true, true, true, false, false, false, false] rfl rfl (by kernel_rfl) (fun _ _ _ h => h) (Or.inl ⟨by rfl, ?_⟩) ?_ ?_
  rotate_left
  · intro w'
    go_simp
    with_reducible rfl
  rotate_left
  · simp only [Act.put, List.setIfInBounds_toArray, List.set_cons_zero, List.set_cons_succ, i64_w, i32_w]
    rfl
  refine pure_ (i := 29) (N := some 149) (v := ?_) (a' := ?_) #[true, true, true, true, true, true, true, true, true, true, true, true, true, true, true, true, true, true, true, true, true, true, true, true, true, true, true, true, true, true, false, false, false] rfl rfl (by kernel_rfl) (fun _ _ _ h => h) (Or.inl ⟨by rfl, ?_⟩) ?_ ?_
  rotate_left
  · intro w'
    go_simp
    with_reducible rfl
  rotate_left
  · simp only [Act.put, List.setIfInBounds_toArray, List.set_cons_zero, List.set_cons_succ, i64_w, i32_w]
    rfl
  refine one_ (i := 30) (N := some 150) #[true, true, true, true, true, true, true, true, true, true, true, true, true, true, true, true, true, true, true, true, true, true, true, true, true, true, true, true, true, true, true, false, false] rfl rfl (by kernel_rfl) (by decide) (fun K hK => ?_)
  refine goes_ Try.func10 (by kernel_rfl) rfl #[] (by rfl) rfl rfl (by simp) ?_
  with_reducible refine (awakeB HX7.out).mono ?_
  rintro e w9 ⟨rfl, hE, hb⟩
  refine ⟨_, rfl, ?_⟩
  have HE9 := Aside0.mk hE
  have HT9 := Aside0.mk (HT7.out.step hb)
  clear hE hb
  refine hK.out _ _ ⟨(HE9.out.c (List.mem_cons_of_mem _ (List.mem_cons_of_mem _ List.mem_cons_self)) 0), (HE9.out.c (List.mem_cons_of_mem _ (List.mem_cons_of_mem _ List.mem_cons_self)) 1), (HE9.out.c (List.mem_cons_of_mem _ (List.mem_cons_of_mem _ List.mem_cons_self)) 2), (HE9.out.c List.mem_cons_self 0), (HE9.out.c List.mem_cons_self 1), (HE9.out.c List.mem_cons_self 2), (HE9.out.c (List.mem_cons_of_mem _ (List.mem_cons_of_mem _ (List.mem_cons_of_mem _ List.mem_cons_self))) 0), (HE9.out.c (List.mem_cons_of_mem _ (List.mem_cons_of_mem _ (List.mem_cons_of_mem _ List.mem_cons_self))) 1), (HE9.out.c (List.mem_cons_of_mem _ (List.mem_cons_of_mem _ (List.mem_cons_of_mem _ List.mem_cons_self))) 2), (HE9.out.c (List.mem_cons_of_mem _ List.mem_cons_self) 0), (HE9.out.c (List.mem_cons_of_mem _ List.mem_cons_self) 1), (HE9.out.c (List.mem_cons_of_mem _ List.mem_cons_self) 2), (blk_cell HT9.out.a.at_.box 0), (blk_cell HT9.out.b.at_.box 0), HT9.out.str_a, HT9.out.str_b⟩ (fun hHeld => ?_)
  clear hK K
  refine norm_ (a' := ?_) ?_ ?_
  rotate_left
  · show Act.put _ (some 150) _ = _
    simp only [Act.put, List.setIfInBounds_toArray, List.set_cons_zero, List.set_cons_succ, i64_w, i32_w]
    rfl
  refine pure_ (i := 31) (N := some 151) (v := ?_) (a' := ?_) #[true, true, true, true, true, true, true, true, true, true, true, true, true, true, true, true, true, true, true, true, true, true, true, true, true, true, true, true, true, true, true, true, false] rfl rfl (by kernel_rfl) (fun _ _ _ h => h) (Or.inl ⟨by rfl, ?_⟩) ?_ ?_
  rotate_left
  · intro w'
    go_simp
    with_reducible rfl
  rotate_left
  · simp only [Act.put, List.setIfInBounds_toArray, List.set_cons_zero, List.set_cons_succ, i64_w, i32_w]
    rfl
  refine pure_ (i := 32) (N := some 6) (v := ?_) (a' := ?_) #[true, true, true, true, true, true, true, true, true, true, true, true, true, true, true, true, true, true, true, true, true, true, true, true, true, true, true, true, true, true, true, true, true] rfl rfl (by kernel_rfl) (fun _ _ _ h => h) (Or.inl ⟨by rfl, ?_⟩) ?_ ?_
  rotate_left
  · intro w'
    go_simp
    with_reducible rfl
  rotate_left
  · simp only [Act.put, List.setIfInBounds_toArray, List.set_cons_zero, List.set_cons_succ, i64_w, i32_w]
    rfl
  refine done_ (by kernel_rfl) ?_

  go_wp2
  go_ret
  exact ⟨rfl, HE9.out.below⟩
theorem parts_calls (A0 : Option Addr) (c0 : Nat) (code : List In) (pc : Int) (A2 : Option Addr) (c2 : Nat) (st : List Int) (A3 : Option Addr) (c3 : Nat) (ca : List Int) (mem : ByteArray) (a b : Int) (w : World) (hr0 : Kd.C kIn w A0 code.length code) (hc0 : code.length ≤ c0) (hr2 : Kd.C (Kd.int .i64) w A2 st.length st) (hc2 : st.length ≤ c2) (hr3 : Kd.C (Kd.int .i64) w A3 ca.length ca) (hc3 : ca.length ≤ c3) (hb : mem.size ≤ 140737488351232 ∧ code.length * 16 ≤ 140737488351232 ∧ st.length * 8 ≤ 140737488351232 ∧ ca.length * 8 ≤ 140737488351232 ∧ (Lit.int .i64 a).wf = true ∧ (Lit.int .i64 b).wf = true) : Calls Try.prog 4 #[.agg #[.slice A0 code.length c0, .int .i64 pc, .slice A2 st.length c2, .slice A3 ca.length c3, .string mem], .int .i64 a, .int .i64 b] w (BPost w true) := by
  have hmem : mem.size ≤ 140737488355328 := Nat.le_trans hb.1 (by decide)
  by_cases h0 : a < 0
  · exact parts_la A0 c0 code pc A2 c2 st A3 c3 ca mem a b w hr0 hc0 hr2 hc2 hr3 hc3 hmem h0
  by_cases h1 : b < 0
  · exact parts_lb A0 c0 code pc A2 c2 st A3 c3 ca mem a b w hr0 hc0 hr2 hc2 hr3 hc3 hmem (by omega)
  by_cases h2 : 2000 < a
  · exact parts_ha A0 c0 code pc A2 c2 st A3 c3 ca mem a b w hr0 hc0 hr2 hc2 hr3 hc3 hmem (by omega)
  by_cases h3 : 2000 < b
  · exact parts_hb A0 c0 code pc A2 c2 st A3 c3 ca mem a b w hr0 hc0 hr2 hc2 hr3 hc3 hmem (by omega)
  have hf : 0 ≤ a ∧ 0 ≤ b ∧ a ≤ 2000 ∧ b ≤ 2000 := by omega
  by_cases hx : (chkP code).1 = 0
  · have hc := (chkP_ok.1 hx).2.2
    by_cases hm : mayP ⟨pc, st, ca⟩ code.length
    · rcases hr1 : runP memK code a.toNat 0 ⟨pc, st, ca⟩ ⟨bytesOf mem, 0, 0⟩ with ⟨s2, m2, k, t, u⟩
      have hE := runP_ends hc a.toNat 0 ⟨pc, st, ca⟩ ⟨bytesOf mem, 0, 0⟩ hm ⟨Int.le_refl 0, Int.le_refl 0, Int.le_refl 0⟩ (by omega)
      rw [hr1] at hE
      obtain ⟨g1, g2, g3⟩ := hE
      dsimp only at g1 g2 g3
      have hab : (a + b).toNat = a.toNat + b.toNat := by omega
      by_cases hk : k = 1
      · subst hk
        have hj := runP_join memK code hc a.toNat b.toNat 0 ⟨pc, st, ca⟩ ⟨bytesOf mem, 0, 0⟩ hm (by rw [hr1])
        rw [hr1, runP_used memK code b.toNat 0 a.toNat s2 m2] at hj
        try dsimp only at hj
        obtain ⟨rfl, hua⟩ : t = 0 ∧ a = u := by
          rcases g3 with g3 | g3
          · exact ⟨g3.2.1, by omega⟩
          · have := g3.1.1; unfold kindOk at this; omega
        subst hua
        have hE2 := runP_ends hc b.toNat a.toNat s2 m2 g1 ⟨g2.1, g2.2.1, by omega⟩ (by omega)
        rw [show a.toNat = 0 + a.toNat by omega, runP_used memK code b.toNat 0 a.toNat s2 m2] at hE2
        rcases hr3' : runP memK code b.toNat 0 s2 m2 with ⟨s3, m3, k3, t3, u3⟩
        rw [hr3'] at hj hE2
        obtain ⟨f1, _, f3⟩ := hE2
        try dsimp only at hj f1 f3
        have hu : ((a.toNat : Nat) : Int) = a := by omega
        have hu3 : 0 ≤ u3 ∧ u3 ≤ 2000 := by rcases f3 with f3 | f3 <;> omega
        refine parts_join A0 c0 code pc A2 c2 st A3 c3 ca mem a b s2 s3 m2 m3 k3 t3 u3 w hr0 hc0 hr2 hc2 hr3 hc3 hmem hf hu3 f1 (runAll_ok (F := a) hx hm (by omega) (by omega) hr1) ?_ (runAll_ok (F := b) hx g1 (by omega) (by omega) hr3')
        rw [← hab] at hj
        rw [runAll_ok (F := a + b) hx hm (by omega) (by omega) hj]
        try dsimp only
        rw [hu]
      · have hp := runP_parts memK code a.toNat b.toNat 0 ⟨pc, st, ca⟩ ⟨bytesOf mem, 0, 0⟩ (by rw [hr1]; exact hk)
        rw [hr1, ← hab] at hp
        exact parts_full A0 c0 code pc A2 c2 st A3 c3 ca mem a b s2 m2 k t u w hr0 hc0 hr2 hc2 hr3 hc3 hmem hf hk g1 (runAll_ok (F := a) hx hm (by omega) (by omega) hr1) (runAll_ok (F := a + b) hx hm (by omega) (by omega) hp)
    · refine parts_err A0 c0 code pc A2 c2 st A3 c3 ca mem a b 1 w hr0 hc0 hr2 hc2 hr3 hc3 hmem hf (by decide) ?_ ?_ <;> (unfold runAll; rw [if_neg (not_not_intro hx), if_pos (.inr (.inr hm))])
  · refine parts_err A0 c0 code pc A2 c2 st A3 c3 ca mem a b (chkP code).1 w hr0 hc0 hr2 hc2 hr3 hc3 hmem hf hx ?_ ?_ <;> (unfold runAll; rw [if_pos hx])
end Go.Proofs.Ytbdamgopggeikaa.VmW
