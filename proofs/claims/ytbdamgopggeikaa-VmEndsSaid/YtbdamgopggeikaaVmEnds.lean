/- The law VmEnds, walked: its ways. -/
import Derived.Test.YtbdamgopggeikaaVmPlain
namespace Go.Proofs.Ytbdamgopggeikaa.VmW
open Go.RowKit Go.Proofs.YtbdamgopggeikaaW.PrintWords Go.Proofs.YtbdamgopggeikaaW.PrintMore Go.Proofs.YtbdamgopggeikaaW.PrintLast Go.Proofs.Ytbdamgopggeikaa.Pvm
set_option linter.unusedVariables false
set_option linter.unusedSimpArgs false
set_option maxHeartbeats 8000000 in
set_option maxRecDepth 100000 in
theorem ends_lo (A0 : Option Addr) (c0 : Nat) (code : List In) (pc : Int) (A2 : Option Addr) (c2 : Nat) (st : List Int) (A3 : Option Addr) (c3 : Nat) (ca : List Int) (mem : ByteArray) (fuel : Int) (w : World) (hr0 : Kd.C kIn w A0 code.length code) (hc0 : code.length ≤ c0) (hr2 : Kd.C (Kd.int .i64) w A2 st.length st) (hc2 : st.length ≤ c2) (hr3 : Kd.C (Kd.int .i64) w A3 ca.length ca) (hc3 : ca.length ≤ c3) (hmem : mem.size ≤ 140737488355328) (hf : fuel < 0) :
    Calls Try.prog 5 #[.agg #[.slice A0 code.length c0, .int .i64 pc, .slice A2 st.length c2, .slice A3 ca.length c3, .string mem], .int .i64 fuel] w (BPost w true) := by
  have hu := Try.underlying25
  have hu2 := Try.underlying33
  have hu3 := Try.underlying27
  have HE0 := Aside0.mk ((LE.start w).boxed #[.slice A0 code.length c0, .int .i64 pc, .slice A2 st.length c2, .slice A3 ca.length c3, .string mem] 27 _ rfl (by decide))
  have H0 := Aside0.mk hr0
  have H2 := Aside0.mk hr2
  have H3 := Aside0.mk hr3
  have HC := Aside0.mk (And.intro hc0 (And.intro hc2 (And.intro hc3 hmem)))
  clear hr0 hr2 hr3 hc0 hc2 hc3 hmem
  have hu4 := Try.underlying43
  have t0 : decide (fuel < 0) = true := decide_eq_true hf
  clear hf
  go_enter Try.func5, Try.ntmps5
  go_wp2_with (go_at_call 10; (with_reducible refine (awakeE HE0.out).mono ?_); rintro e w9 ⟨rfl, hE⟩; have HE9 := Aside0.mk hE; clear hE)
  go_ret
  exact ⟨rfl, HE9.out.below⟩
set_option maxHeartbeats 8000000 in
set_option maxRecDepth 100000 in
theorem ends_hi (A0 : Option Addr) (c0 : Nat) (code : List In) (pc : Int) (A2 : Option Addr) (c2 : Nat) (st : List Int) (A3 : Option Addr) (c3 : Nat) (ca : List Int) (mem : ByteArray) (fuel : Int) (w : World) (hr0 : Kd.C kIn w A0 code.length code) (hc0 : code.length ≤ c0) (hr2 : Kd.C (Kd.int .i64) w A2 st.length st) (hc2 : st.length ≤ c2) (hr3 : Kd.C (Kd.int .i64) w A3 ca.length ca) (hc3 : ca.length ≤ c3) (hmem : mem.size ≤ 140737488355328) (hf : 2000 < fuel) :
    Calls Try.prog 5 #[.agg #[.slice A0 code.length c0, .int .i64 pc, .slice A2 st.length c2, .slice A3 ca.length c3, .string mem], .int .i64 fuel] w (BPost w true) := by
  have hu := Try.underlying25
  have hu2 := Try.underlying33
  have hu3 := Try.underlying27
  have HE0 := Aside0.mk ((LE.start w).boxed #[.slice A0 code.length c0, .int .i64 pc, .slice A2 st.length c2, .slice A3 ca.length c3, .string mem] 27 _ rfl (by decide))
  have H0 := Aside0.mk hr0
  have H2 := Aside0.mk hr2
  have H3 := Aside0.mk hr3
  have HC := Aside0.mk (And.intro hc0 (And.intro hc2 (And.intro hc3 hmem)))
  clear hr0 hr2 hr3 hc0 hc2 hc3 hmem
  have hu4 := Try.underlying43
  have t0 : decide (fuel < 0) = false := decide_eq_false (by omega)
  have t1 : decide (fuel > 2000) = true := decide_eq_true hf
  have t2 : decide (2000 < fuel) = true := decide_eq_true hf
  clear hf
  go_enter Try.func5, Try.ntmps5
  go_wp2_with (go_at_call 10; (with_reducible refine (awakeE HE0.out).mono ?_); rintro e w9 ⟨rfl, hE⟩; have HE9 := Aside0.mk hE; clear hE)
  go_ret
  exact ⟨rfl, HE9.out.below⟩
set_option maxHeartbeats 8000000 in
set_option maxRecDepth 100000 in
theorem ends_chk (A0 : Option Addr) (c0 : Nat) (code : List In) (pc : Int) (A2 : Option Addr) (c2 : Nat) (st : List Int) (A3 : Option Addr) (c3 : Nat) (ca : List Int) (mem : ByteArray) (fuel : Int) (w : World) (hr0 : Kd.C kIn w A0 code.length code) (hc0 : code.length ≤ c0) (hr2 : Kd.C (Kd.int .i64) w A2 st.length st) (hc2 : st.length ≤ c2) (hr3 : Kd.C (Kd.int .i64) w A3 ca.length ca) (hc3 : ca.length ≤ c3) (hmem : mem.size ≤ 140737488355328) (hf : 0 ≤ fuel ∧ fuel ≤ 2000) (hx : (chkP code).1 ≠ 0) :
    Calls Try.prog 5 #[.agg #[.slice A0 code.length c0, .int .i64 pc, .slice A2 st.length c2, .slice A3 ca.length c3, .string mem], .int .i64 fuel] w (BPost w true) := by
  have hu := Try.underlying25
  have hu2 := Try.underlying33
  have hu3 := Try.underlying27
  have HE0 := Aside0.mk ((LE.start w).boxed #[.slice A0 code.length c0, .int .i64 pc, .slice A2 st.length c2, .slice A3 ca.length c3, .string mem] 27 _ rfl (by decide))
  have H0 := Aside0.mk hr0
  have H2 := Aside0.mk hr2
  have H3 := Aside0.mk hr3
  have HC := Aside0.mk (And.intro hc0 (And.intro hc2 (And.intro hc3 hmem)))
  clear hr0 hr2 hr3 hc0 hc2 hc3 hmem
  have hu4 := Try.underlying43
  rcases hxy : chkP code with ⟨x, y⟩
  rw [hxy] at hx
  dsimp only at hx
  have HK := Aside0.mk hxy
  have tx : (x == 0) = false := by simpa using hx
  have ty : (x != 0) = true := by simpa using hx
  have HR := Aside0.mk (show runAll code ⟨pc, st, ca⟩ ⟨bytesOf mem, 0, 0⟩ fuel = ⟨⟨0, [], []⟩, ⟨bytesOf mem, 0, 0⟩, 0, 0, 0, x⟩ from by unfold runAll; rw [hxy]; rw [if_pos hx])
  have t0 : decide (fuel < 0) = false := decide_eq_false (by omega)
  have t1 : decide (fuel > 2000) = false := decide_eq_false (by omega)
  have t2 : decide (2000 < fuel) = false := decide_eq_false (by omega)
  clear hx hxy hf
  go_enter Try.func5, Try.ntmps5
  go_wp2_with (first
    | (go_at_call 11; (with_reducible refine (fillE HE0.out mem HC.out.2.2.2 (w.heap.size + 1) (by simp)).mono ?_); rintro e w1 ⟨v, rfl, hE, hM, hb⟩; have HE1 := Aside0.mk hE; have HM1 := Aside0.mk hM; have a0 := hE.c List.mem_cons_self 0; have a1 := hE.c List.mem_cons_self 1; have a2 := hE.c List.mem_cons_self 2; have a3 := hE.c List.mem_cons_self 3; have a4 := hE.c List.mem_cons_self 4; clear hE hM hb)
    | (go_at_call 13; (with_reducible refine (runE (s := ⟨pc, st, ca⟩) HE1.out (Kd.C_below H0.out HE1.out.below) HC.out.1 (Kd.C_below H2.out HE1.out.below) (Kd.C_below H3.out HE1.out.below) HM1.out (far_in H0.out HM1.out) HR.out).mono ?_); rintro e w2 ⟨B1, d1, B2, d2, v2, rfl, hE, hM, _, _⟩; try dsimp only at hE hM; have hE2 := hE.res (.int .i64 0) (.slice B1 0 d1) (.slice B2 0 d2) (.int .i64 0) (.int .i64 0) (.int .i64 0); have HE2 := Aside0.mk hE2; have HM2 := Aside0.mk (hM.step (below_alloc (below_alloc (Below.refl _ _) (.cells #[.int .i64 0, .slice B1 0 d1, .slice B2 0 d2] 25)) (.cells #[.int .i64 0, .int .i64 0, .int .i64 0] 33))); clear a0 a1 a2 a3 a4; have a0 := hE2.c (List.mem_cons_of_mem _ (List.mem_cons_of_mem _ List.mem_cons_self)) 0; have a1 := hE2.c (List.mem_cons_of_mem _ (List.mem_cons_of_mem _ List.mem_cons_self)) 1; have a2 := hE2.c (List.mem_cons_of_mem _ (List.mem_cons_of_mem _ List.mem_cons_self)) 2; have a3 := hE2.c (List.mem_cons_of_mem _ (List.mem_cons_of_mem _ List.mem_cons_self)) 3; have a4 := hE2.c (List.mem_cons_of_mem _ (List.mem_cons_of_mem _ List.mem_cons_self)) 4; have b0 := hE2.c (List.mem_cons_of_mem _ List.mem_cons_self) 0; have b1 := hE2.c (List.mem_cons_of_mem _ List.mem_cons_self) 1; have b2 := hE2.c (List.mem_cons_of_mem _ List.mem_cons_self) 2; have z0 := hE2.c List.mem_cons_self 0; have z1 := hE2.c List.mem_cons_self 1; have z2 := hE2.c List.mem_cons_self 2; have q0 := blk_cell hM.at_.box 0; have q1 := blk_cell hM.at_.box 1; have q2 := blk_cell hM.at_.box 2; clear hE hE2 hM HE1 HM1)
    | (go_at_call 16; (with_reducible refine (rchkE HE2.out (Kd.C_below H0.out HE2.out.below) HC.out.1 HK.out).mono ?_); rintro e w3 ⟨rfl, hE⟩; have HE3 := Aside0.mk hE; clear a0 a1 a2 a3 a4 b0 b1 b2 z0 z1 z2 q0 q1 q2; have a0 := hE.c (List.mem_cons_of_mem _ (List.mem_cons_of_mem _ List.mem_cons_self)) 0; have a1 := hE.c (List.mem_cons_of_mem _ (List.mem_cons_of_mem _ List.mem_cons_self)) 1; have a2 := hE.c (List.mem_cons_of_mem _ (List.mem_cons_of_mem _ List.mem_cons_self)) 2; have a3 := hE.c (List.mem_cons_of_mem _ (List.mem_cons_of_mem _ List.mem_cons_self)) 3; have a4 := hE.c (List.mem_cons_of_mem _ (List.mem_cons_of_mem _ List.mem_cons_self)) 4; have b0 := hE.c (List.mem_cons_of_mem _ List.mem_cons_self) 0; have b1 := hE.c (List.mem_cons_of_mem _ List.mem_cons_self) 1; have b2 := hE.c (List.mem_cons_of_mem _ List.mem_cons_self) 2; have z0 := hE.c List.mem_cons_self 0; have z1 := hE.c List.mem_cons_self 1; have z2 := hE.c List.mem_cons_self 2; clear hE)
    | (go_at_call 10; (with_reducible refine (awakeE HE3.out).mono ?_); rintro e w9 ⟨rfl, hE⟩; have HE9 := Aside0.mk hE; clear hE))
  go_ret
  exact ⟨rfl, HE9.out.below⟩
set_option maxHeartbeats 8000000 in
set_option maxRecDepth 100000 in
theorem ends_may (A0 : Option Addr) (c0 : Nat) (code : List In) (pc : Int) (A2 : Option Addr) (c2 : Nat) (st : List Int) (A3 : Option Addr) (c3 : Nat) (ca : List Int) (mem : ByteArray) (fuel : Int) (w : World) (hr0 : Kd.C kIn w A0 code.length code) (hc0 : code.length ≤ c0) (hr2 : Kd.C (Kd.int .i64) w A2 st.length st) (hc2 : st.length ≤ c2) (hr3 : Kd.C (Kd.int .i64) w A3 ca.length ca) (hc3 : ca.length ≤ c3) (hmem : mem.size ≤ 140737488355328) (hf : 0 ≤ fuel ∧ fuel ≤ 2000) (hx : (chkP code).1 = 0) (hm : ¬ mayP ⟨pc, st, ca⟩ code.length) :
    Calls Try.prog 5 #[.agg #[.slice A0 code.length c0, .int .i64 pc, .slice A2 st.length c2, .slice A3 ca.length c3, .string mem], .int .i64 fuel] w (BPost w true) := by
  have hu := Try.underlying25
  have hu2 := Try.underlying33
  have hu3 := Try.underlying27
  have HE0 := Aside0.mk ((LE.start w).boxed #[.slice A0 code.length c0, .int .i64 pc, .slice A2 st.length c2, .slice A3 ca.length c3, .string mem] 27 _ rfl (by decide))
  have H0 := Aside0.mk hr0
  have H2 := Aside0.mk hr2
  have H3 := Aside0.mk hr3
  have HC := Aside0.mk (And.intro hc0 (And.intro hc2 (And.intro hc3 hmem)))
  clear hr0 hr2 hr3 hc0 hc2 hc3 hmem
  have hu4 := Try.underlying43
  rcases hxy : chkP code with ⟨x, y⟩
  rw [hxy] at hx
  dsimp only at hx
  subst hx
  have HK := Aside0.mk hxy
  have HMY := Aside0.mk (decide_eq_false hm)
  have HR := Aside0.mk (show runAll code ⟨pc, st, ca⟩ ⟨bytesOf mem, 0, 0⟩ fuel = ⟨⟨0, [], []⟩, ⟨bytesOf mem, 0, 0⟩, 0, 0, 0, 1⟩ from by unfold runAll; rw [hxy]; rw [if_neg (by simp), if_pos (.inr (.inr hm))])
  have t0 : decide (fuel < 0) = false := decide_eq_false (by omega)
  have t1 : decide (fuel > 2000) = false := decide_eq_false (by omega)
  have t2 : decide (2000 < fuel) = false := decide_eq_false (by omega)
  clear hxy hf hm
  go_enter Try.func5, Try.ntmps5
  go_wp2_with (first
    | (go_at_call 11; (with_reducible refine (fillE HE0.out mem HC.out.2.2.2 (w.heap.size + 1) (by simp)).mono ?_); rintro e w1 ⟨v, rfl, hE, hM, hb⟩; have HE1 := Aside0.mk hE; have HM1 := Aside0.mk hM; have a0 := hE.c List.mem_cons_self 0; have a1 := hE.c List.mem_cons_self 1; have a2 := hE.c List.mem_cons_self 2; have a3 := hE.c List.mem_cons_self 3; have a4 := hE.c List.mem_cons_self 4; clear hE hM hb)
    | (go_at_call 13; (with_reducible refine (runE (s := ⟨pc, st, ca⟩) HE1.out (Kd.C_below H0.out HE1.out.below) HC.out.1 (Kd.C_below H2.out HE1.out.below) (Kd.C_below H3.out HE1.out.below) HM1.out (far_in H0.out HM1.out) HR.out).mono ?_); rintro e w2 ⟨B1, d1, B2, d2, v2, rfl, hE, hM, _, _⟩; try dsimp only at hE hM; have hE2 := hE.res (.int .i64 0) (.slice B1 0 d1) (.slice B2 0 d2) (.int .i64 0) (.int .i64 0) (.int .i64 0); have HE2 := Aside0.mk hE2; have HM2 := Aside0.mk (hM.step (below_alloc (below_alloc (Below.refl _ _) (.cells #[.int .i64 0, .slice B1 0 d1, .slice B2 0 d2] 25)) (.cells #[.int .i64 0, .int .i64 0, .int .i64 0] 33))); clear a0 a1 a2 a3 a4; have a0 := hE2.c (List.mem_cons_of_mem _ (List.mem_cons_of_mem _ List.mem_cons_self)) 0; have a1 := hE2.c (List.mem_cons_of_mem _ (List.mem_cons_of_mem _ List.mem_cons_self)) 1; have a2 := hE2.c (List.mem_cons_of_mem _ (List.mem_cons_of_mem _ List.mem_cons_self)) 2; have a3 := hE2.c (List.mem_cons_of_mem _ (List.mem_cons_of_mem _ List.mem_cons_self)) 3; have a4 := hE2.c (List.mem_cons_of_mem _ (List.mem_cons_of_mem _ List.mem_cons_self)) 4; have b0 := hE2.c (List.mem_cons_of_mem _ List.mem_cons_self) 0; have b1 := hE2.c (List.mem_cons_of_mem _ List.mem_cons_self) 1; have b2 := hE2.c (List.mem_cons_of_mem _ List.mem_cons_self) 2; have z0 := hE2.c List.mem_cons_self 0; have z1 := hE2.c List.mem_cons_self 1; have z2 := hE2.c List.mem_cons_self 2; have q0 := blk_cell hM.at_.box 0; have q1 := blk_cell hM.at_.box 1; have q2 := blk_cell hM.at_.box 2; clear hE hE2 hM HE1 HM1)
    | (go_at_call 16; (with_reducible refine (rchkE HE2.out (Kd.C_below H0.out HE2.out.below) HC.out.1 HK.out).mono ?_); rintro e w3 ⟨rfl, hE⟩; have HE3 := Aside0.mk hE; clear a0 a1 a2 a3 a4 b0 b1 b2 z0 z1 z2 q0 q1 q2; have a0 := hE.c (List.mem_cons_of_mem _ (List.mem_cons_of_mem _ List.mem_cons_self)) 0; have a1 := hE.c (List.mem_cons_of_mem _ (List.mem_cons_of_mem _ List.mem_cons_self)) 1; have a2 := hE.c (List.mem_cons_of_mem _ (List.mem_cons_of_mem _ List.mem_cons_self)) 2; have a3 := hE.c (List.mem_cons_of_mem _ (List.mem_cons_of_mem _ List.mem_cons_self)) 3; have a4 := hE.c (List.mem_cons_of_mem _ (List.mem_cons_of_mem _ List.mem_cons_self)) 4; have b0 := hE.c (List.mem_cons_of_mem _ List.mem_cons_self) 0; have b1 := hE.c (List.mem_cons_of_mem _ List.mem_cons_self) 1; have b2 := hE.c (List.mem_cons_of_mem _ List.mem_cons_self) 2; have z0 := hE.c List.mem_cons_self 0; have z1 := hE.c List.mem_cons_self 1; have z2 := hE.c List.mem_cons_self 2; clear hE)
    | (go_at_call 17; (with_reducible refine (rmayE (s := ⟨pc, st, ca⟩) (n := code.length) HE3.out ⟨Kd.C_below H2.out HE3.out.below, HC.out.2.1⟩ ⟨Kd.C_below H3.out HE3.out.below, HC.out.2.2.1⟩ HMY.out).mono ?_); rintro e w4 ⟨rfl, hE⟩; have HE4 := Aside0.mk hE; clear hE)
    | (go_at_call 10; (with_reducible refine (awakeE HE4.out).mono ?_); rintro e w9 ⟨rfl, hE⟩; have HE9 := Aside0.mk hE; clear hE))
  go_ret
  exact ⟨rfl, HE9.out.below⟩
set_option maxHeartbeats 8000000 in
set_option maxRecDepth 100000 in
theorem ends_A (A0 : Option Addr) (c0 : Nat) (code : List In) (pc : Int) (A2 : Option Addr) (c2 : Nat) (st : List Int) (A3 : Option Addr) (c3 : Nat) (ca : List Int) (mem : ByteArray) (fuel : Int) (s2 : St) (m2 : Mem) (w : World) (hr0 : Kd.C kIn w A0 code.length code) (hc0 : code.length ≤ c0) (hr2 : Kd.C (Kd.int .i64) w A2 st.length st) (hc2 : st.length ≤ c2) (hr3 : Kd.C (Kd.int .i64) w A3 ca.length ca) (hc3 : ca.length ≤ c3) (hmem : mem.size ≤ 140737488355328) (hf : 0 ≤ fuel ∧ fuel ≤ 2000) (hr : runAll code ⟨pc, st, ca⟩ ⟨bytesOf mem, 0, 0⟩ fuel = ⟨s2, m2, 1, 0, fuel, 0⟩) (hm : mayP s2 code.length) (hl : 0 ≤ m2.loads ∧ 0 ≤ m2.stores ∧ m2.loads + m2.stores ≤ fuel) (hu0 : 0 ≤ fuel ∧ fuel ≤ fuel) :
    Calls Try.prog 5 #[.agg #[.slice A0 code.length c0, .int .i64 pc, .slice A2 st.length c2, .slice A3 ca.length c3, .string mem], .int .i64 fuel] w (BPost w true) := by
  have hu := Try.underlying25
  have hu2 := Try.underlying33
  have hu3 := Try.underlying27
  have HE0 := Aside0.mk ((LE.start w).boxed #[.slice A0 code.length c0, .int .i64 pc, .slice A2 st.length c2, .slice A3 ca.length c3, .string mem] 27 _ rfl (by decide))
  have H0 := Aside0.mk hr0
  have H2 := Aside0.mk hr2
  have H3 := Aside0.mk hr3
  have HC := Aside0.mk (And.intro hc0 (And.intro hc2 (And.intro hc3 hmem)))
  clear hr0 hr2 hr3 hc0 hc2 hc3 hmem
  have hu4 := Try.underlying43
  have HR := Aside0.mk hr
  have HMY := Aside0.mk (decide_eq_true hm)
  have ew : wrap64 (m2.loads + m2.stores) = m2.loads + m2.stores := by unfold wrap64; omega
  have hd0 : decide (m2.loads + m2.stores ≤ fuel) = true := decide_eq_true hl.2.2
  have u0 : decide (fuel < 0) = false := decide_eq_false (by omega)
  have u1 : decide (fuel > fuel) = false := decide_eq_false (by omega)
  have u2 : decide (fuel < fuel) = false := decide_eq_false (by omega)
  have t0 : decide (fuel < 0) = false := decide_eq_false (by omega)
  have t1 : decide (fuel > 2000) = false := decide_eq_false (by omega)
  have t2 : decide (2000 < fuel) = false := decide_eq_false (by omega)
  clear hf hr hm hl hu0
  go_enter Try.func5, Try.ntmps5
  go_wp2_with (first
    | (go_at_call 11; (with_reducible refine (fillE HE0.out mem HC.out.2.2.2 (w.heap.size + 1) (by simp)).mono ?_); rintro e w1 ⟨v, rfl, hE, hM, hb⟩; have HE1 := Aside0.mk hE; have HM1 := Aside0.mk hM; have a0 := hE.c List.mem_cons_self 0; have a1 := hE.c List.mem_cons_self 1; have a2 := hE.c List.mem_cons_self 2; have a3 := hE.c List.mem_cons_self 3; have a4 := hE.c List.mem_cons_self 4; clear hE hM hb)
    | (go_at_call 13; (with_reducible refine (runE (s := ⟨pc, st, ca⟩) HE1.out (Kd.C_below H0.out HE1.out.below) HC.out.1 (Kd.C_below H2.out HE1.out.below) (Kd.C_below H3.out HE1.out.below) HM1.out (far_in H0.out HM1.out) HR.out).mono ?_); rintro e w2 ⟨B1, d1, B2, d2, v2, rfl, hE, hM, _, _⟩; try dsimp only at hE hM; have hE2 := hE.res (.int .i64 s2.pc) (.slice B1 s2.st.length d1) (.slice B2 s2.ca.length d2) (.int .i64 1) (.int .i64 0) (.int .i64 fuel); have HE2 := Aside0.mk hE2; have HM2 := Aside0.mk (hM.step (below_alloc (below_alloc (Below.refl _ _) (.cells #[.int .i64 s2.pc, .slice B1 s2.st.length d1, .slice B2 s2.ca.length d2] 25)) (.cells #[.int .i64 1, .int .i64 0, .int .i64 fuel] 33))); clear a0 a1 a2 a3 a4; have a0 := hE2.c (List.mem_cons_of_mem _ (List.mem_cons_of_mem _ List.mem_cons_self)) 0; have a1 := hE2.c (List.mem_cons_of_mem _ (List.mem_cons_of_mem _ List.mem_cons_self)) 1; have a2 := hE2.c (List.mem_cons_of_mem _ (List.mem_cons_of_mem _ List.mem_cons_self)) 2; have a3 := hE2.c (List.mem_cons_of_mem _ (List.mem_cons_of_mem _ List.mem_cons_self)) 3; have a4 := hE2.c (List.mem_cons_of_mem _ (List.mem_cons_of_mem _ List.mem_cons_self)) 4; have b0 := hE2.c (List.mem_cons_of_mem _ List.mem_cons_self) 0; have b1 := hE2.c (List.mem_cons_of_mem _ List.mem_cons_self) 1; have b2 := hE2.c (List.mem_cons_of_mem _ List.mem_cons_self) 2; have z0 := hE2.c List.mem_cons_self 0; have z1 := hE2.c List.mem_cons_self 1; have z2 := hE2.c List.mem_cons_self 2; have q0 := blk_cell hM.at_.box 0; have q1 := blk_cell hM.at_.box 1; have q2 := blk_cell hM.at_.box 2; clear hE hE2 hM HE1 HM1))
  have q1_ := blk_cell HM2.out.at_.box 1
  have q2_ := blk_cell HM2.out.at_.box 2
  have HX := Aside0.mk (HE2.out.step (below_drew (Below.refl _ _)))
  have HM3 := Aside0.mk (HM2.out.step (below_drew (Below.refl _ _)))
  refine start_ (n := 32) (S := fun w' => w'.cell? ⟨w.heap.size, 0, none⟩ = some (.slice A0 code.length c0) ∧ w'.cell? ⟨w2.heap.size, 0, none⟩ = some (.int .i64 s2.pc) ∧ w'.cell? ⟨w2.heap.size, 1, none⟩ = some (.slice B1 s2.st.length d1) ∧ w'.cell? ⟨w2.heap.size, 2, none⟩ = some (.slice B2 s2.ca.length d2) ∧ w'.cell? ⟨w2.heap.size + 1, 0, none⟩ = some (.int .i64 1) ∧ w'.cell? ⟨w2.heap.size + 1, 1, none⟩ = some (.int .i64 0) ∧ w'.cell? ⟨w2.heap.size + 1, 2, none⟩ = some (.int .i64 fuel) ∧ w'.cell? ⟨w.heap.size + 1, 1, none⟩ = some (.int .i64 m2.loads) ∧ w'.cell? ⟨w.heap.size + 1, 2, none⟩ = some (.int .i64 m2.stores)) (ds := []) #[false, false, false, false, false, false, false, false, false, false, false, false, false, false, false, false, false, false, false, false, false, false, false, false, false, false, false, false, false, false, false, false] (by kernel_rfl) rfl rfl ⟨a0, b0, b1, b2, z0, z1, z2, q1_, q2_⟩ (fun hHeld => ?_)
  refine pure_ (i := 1) (N := some 95) (v := ?_) (a' := ?_) #[false, true, false, false, false, false, false, false, false, false, false, false, false, false, false, false, false, false, false, false, false, false, false, false, false, false, false, false, false, false, false, false] rfl rfl (by kernel_rfl) (fun _ _ _ h => h) (Or.inl ⟨by rfl, ?_⟩) ?_ ?_
  rotate_left
  · intro w'
    go_simp
    with_reducible rfl
  rotate_left
  · simp only [Act.put, List.setIfInBounds_toArray, List.set_cons_zero, List.set_cons_succ, i64_w, i32_w]
    rfl
  refine take_ (i := 0) (N := some 94) (v := ?_) (a' := ?_) #[true, true, false, false, false, false, false, false, false, false, false, false, false, false, false, false, false, false, false, false, false, false, false, false, false, false, false, false, false, false, false, false] rfl rfl (by kernel_rfl) (fun _ _ _ h => h) (Or.inl ⟨by rfl, ?_⟩) hHeld ?_ ?_
  rotate_left
  · rintro w' ⟨s0, s1, s2, s3, s4, s5, s6, s7, s8⟩
    go_simp
    with_reducible rfl
  rotate_left
  · simp only [Act.put, List.setIfInBounds_toArray, List.set_cons_zero, List.set_cons_succ, i64_w, i32_w]
    rfl
  refine take_ (i := 2) (N := some 96) (v := ?_) (a' := ?_) #[true, true, true, false, false, false, false, false, false, false, false, false, false, false, false, false, false, false, false, false, false, false, false, false, false, false, false, false, false, false, false, false] rfl rfl (by kernel_rfl) (fun _ _ _ h => h) (Or.inl ⟨by rfl, ?_⟩) hHeld ?_ ?_
  rotate_left
  · rintro w' ⟨s0, s1, s2, s3, s4, s5, s6, s7, s8⟩
    go_simp
    with_reducible rfl
  rotate_left
  · simp only [Act.put, List.setIfInBounds_toArray, List.set_cons_zero, List.set_cons_succ, i64_w, i32_w]
    rfl
  refine pure_ (i := 3) (N := some 97) (v := ?_) (a' := ?_) #[true, true, true, true, false, false, false, false, false, false, false, false, false, false, false, false, false, false, false, false, false, false, false, false, false, false, false, false, false, false, false, false] rfl rfl (by kernel_rfl) (fun _ _ _ h => h) (Or.inl ⟨by rfl, ?_⟩) ?_ ?_
  rotate_left
  · intro w'
    go_simp
    with_reducible rfl
  rotate_left
  · simp only [Act.put, List.setIfInBounds_toArray, List.set_cons_zero, List.set_cons_succ, i64_w, i32_w]
    rfl
  refine one_ (i := 4) (N := some 98) #[true, true, true, true, true, false, false, false, false, false, false, false, false, false, false, false, false, false, false, false, false, false, false, false, false, false, false, false, false, false, false, false] rfl rfl (by kernel_rfl) (by decide) (fun K hK => ?_)
  refine goes_ Try.func17 (by kernel_rfl) rfl #[.agg #[.int .i64 s2.pc, .slice B1 s2.st.length d1, .slice B2 s2.ca.length d2], .int .i64 (code.length : Int)] (by rfl) rfl rfl (by simp only [List.map_toArray, List.map_cons, List.map_nil]; rfl) ?_
  with_reducible refine (rmayB HX.out (HX.out.r List.mem_cons_self) (HX.out.r (List.mem_cons_of_mem _ List.mem_cons_self)) HMY.out).mono ?_
  rintro e w4 ⟨rfl, hE, hb⟩
  refine ⟨_, rfl, ?_⟩
  have HX4 := Aside0.mk hE
  have HM4 := Aside0.mk (HM3.out.step hb)
  clear hE hb
  refine hK.out _ _ ⟨(HX4.out.c (List.mem_cons_of_mem _ (List.mem_cons_of_mem _ List.mem_cons_self)) 0), (HX4.out.c (List.mem_cons_of_mem _ List.mem_cons_self) 0), (HX4.out.c (List.mem_cons_of_mem _ List.mem_cons_self) 1), (HX4.out.c (List.mem_cons_of_mem _ List.mem_cons_self) 2), (HX4.out.c List.mem_cons_self 0), (HX4.out.c List.mem_cons_self 1), (HX4.out.c List.mem_cons_self 2), (blk_cell HM4.out.at_.box 1), (blk_cell HM4.out.at_.box 2)⟩ (fun hHeld => ?_)
  clear hK K
  refine norm_ (a' := ?_) ?_ ?_
  rotate_left
  · show Act.put _ (some 98) _ = _
    simp only [Act.put, List.setIfInBounds_toArray, List.set_cons_zero, List.set_cons_succ, i64_w, i32_w]
    rfl
  refine pure_ (i := 5) (N := some 99) (v := ?_) (a' := ?_) #[true, true, true, true, true, true, false, false, false, false, false, false, false, false, false, false, false, false, false, false, false, false, false, false, false, false, false, false, false, false, false, false] rfl rfl (by kernel_rfl) (fun _ _ _ h => h) (Or.inl ⟨by rfl, ?_⟩) ?_ ?_
  rotate_left
  · intro w'
    go_simp
    with_reducible rfl
  rotate_left
  · simp only [Act.put, List.setIfInBounds_toArray, List.set_cons_zero, List.set_cons_succ, i64_w, i32_w]
    rfl
  refine pure_ (i := 6) (N := some 100) (v := ?_) (a' := ?_) #[true, true, true, true, true, true, true, false, false, false, false, false, false, false, false, false, false, false, false, false, false, false, false, false, false, false, false, false, false, false, false, false] rfl rfl (by kernel_rfl) (fun _ _ _ h => h) (Or.inl ⟨by rfl, ?_⟩) ?_ ?_
  rotate_left
  · intro w'
    go_simp
    with_reducible rfl
  rotate_left
  · simp only [Act.put, List.setIfInBounds_toArray, List.set_cons_zero, List.set_cons_succ, i64_w, i32_w]
    rfl
  refine pure_ (i := 7) (N := some 101) (v := ?_) (a' := ?_) #[true, true, true, true, true, true, true, true, false, false, false, false, false, false, false, false, false, false, false, false, false, false, false, false, false, false, false, false, false, false, false, false] rfl rfl (by kernel_rfl) (fun _ _ _ h => h) (Or.inl ⟨by rfl, ?_⟩) ?_ ?_
  rotate_left
  · intro w'
    go_simp
    with_reducible rfl
  rotate_left
  · simp only [Act.put, List.setIfInBounds_toArray, List.set_cons_zero, List.set_cons_succ, i64_w, i32_w]
    rfl
  refine pure_ (i := 8) (N := some 102) (v := ?_) (a' := ?_) #[true, true, true, true, true, true, true, true, true, false, false, false, false, false, false, false, false, false, false, false, false, false, false, false, false, false, false, false, false, false, false, false] rfl rfl (by kernel_rfl) (fun _ _ _ h => h) (Or.inl ⟨by rfl, ?_⟩) ?_ ?_
  rotate_left
  · intro w'
    go_simp
    with_reducible rfl
  rotate_left
  · simp only [Act.put, List.setIfInBounds_toArray, List.set_cons_zero, List.set_cons_succ, i64_w, i32_w]
    rfl
  refine pure_ (i := 10) (N := some 104) (v := ?_) (a' := ?_) #[true, true, true, true, true, true, true, true, true, false, true, false, false, false, false, false, false, false, false, false, false, false, false, false, false, false, false, false, false, false, false, false] rfl rfl (by kernel_rfl) (fun _ _ _ h => h) (Or.inl ⟨by rfl, ?_⟩) ?_ ?_
  rotate_left
  · intro w'
    go_simp
    with_reducible rfl
  rotate_left
  · simp only [Act.put, List.setIfInBounds_toArray, List.set_cons_zero, List.set_cons_succ, i64_w, i32_w]
    rfl
  refine pure_ (i := 11) (N := some 105) (v := ?_) (a' := ?_) #[true, true, true, true, true, true, true, true, true, false, true, true, false, false, false, false, false, false, false, false, false, false, false, false, false, false, false, false, false, false, false, false] rfl rfl (by kernel_rfl) (fun _ _ _ h => h) (Or.inl ⟨by rfl, ?_⟩) ?_ ?_
  rotate_left
  · intro w'
    go_simp
    with_reducible rfl
  rotate_left
  · simp only [Act.put, List.setIfInBounds_toArray, List.set_cons_zero, List.set_cons_succ, i64_w, i32_w]
    rfl
  refine pure_ (i := 12) (N := some 106) (v := ?_) (a' := ?_) #[true, true, true, true, true, true, true, true, true, false, true, true, true, false, false, false, false, false, false, false, false, false, false, false, false, false, false, false, false, false, false, false] rfl rfl (by kernel_rfl) (fun _ _ _ h => h) (Or.inl ⟨by rfl, ?_⟩) ?_ ?_
  rotate_left
  · intro w'
    go_simp
    with_reducible rfl
  rotate_left
  · simp only [Act.put, List.setIfInBounds_toArray, List.set_cons_zero, List.set_cons_succ, i64_w, i32_w]
    rfl
  refine pure_ (i := 15) (N := some 109) (v := ?_) (a' := ?_) #[true, true, true, true, true, true, true, true, true, false, true, true, true, false, false, true, false, false, false, false, false, false, false, false, false, false, false, false, false, false, false, false] rfl rfl (by kernel_rfl) (fun _ _ _ h => h) (Or.inl ⟨by rfl, ?_⟩) ?_ ?_
  rotate_left
  · intro w'
    go_simp
    with_reducible rfl
  rotate_left
  · simp only [Act.put, List.setIfInBounds_toArray, List.set_cons_zero, List.set_cons_succ, i64_w, i32_w]
    rfl
  refine take_ (i := 9) (N := some 103) (v := ?_) (a' := ?_) #[true, true, true, true, true, true, true, true, true, true, true, true, true, false, false, true, false, false, false, false, false, false, false, false, false, false, false, false, false, false, false, false] rfl rfl (by kernel_rfl) (fun _ _ _ h => h) (Or.inl ⟨by rfl, ?_⟩) hHeld ?_ ?_
  rotate_left
  · rintro w' ⟨s0, s1, s2, s3, s4, s5, s6, s7, s8⟩
    go_simp
    with_reducible rfl
  rotate_left
  · simp only [Act.put, List.setIfInBounds_toArray, List.set_cons_zero, List.set_cons_succ, i64_w, i32_w]
    rfl
  refine take_ (i := 13) (N := some 107) (v := ?_) (a' := ?_) #[true, true, true, true, true, true, true, true, true, true, true, true, true, true, false, true, false, false, false, false, false, false, false, false, false, false, false, false, false, false, false, false] rfl rfl (by kernel_rfl) (fun _ _ _ h => h) (Or.inl ⟨by rfl, ?_⟩) hHeld ?_ ?_
  rotate_left
  · rintro w' ⟨s0, s1, s2, s3, s4, s5, s6, s7, s8⟩
    go_simp
    with_reducible rfl
  rotate_left
  · simp only [Act.put, List.setIfInBounds_toArray, List.set_cons_zero, List.set_cons_succ, i64_w, i32_w]
    rfl
  refine pure_ (i := 14) (N := some 108) (v := ?_) (a' := ?_) #[true, true, true, true, true, true, true, true, true, true, true, true, true, true, true, true, false, false, false, false, false, false, false, false, false, false, false, false, false, false, false, false] rfl rfl (by kernel_rfl) (fun _ _ _ h => h) (Or.inl ⟨by rfl, ?_⟩) ?_ ?_
  rotate_left
  · intro w'
    go_simp
    with_reducible rfl
  rotate_left
  · simp only [Act.put, List.setIfInBounds_toArray, List.set_cons_zero, List.set_cons_succ, i64_w, i32_w]
    rfl
  refine take_ (i := 16) (N := some 110) (v := ?_) (a' := ?_) #[true, true, true, true, true, true, true, true, true, true, true, true, true, true, true, true, true, false, false, false, false, false, false, false, false, false, false, false, false, false, false, false] rfl rfl (by kernel_rfl) (fun _ _ _ h => h) (Or.inl ⟨by rfl, ?_⟩) hHeld ?_ ?_
  rotate_left
  · rintro w' ⟨s0, s1, s2, s3, s4, s5, s6, s7, s8⟩
    go_simp
    with_reducible rfl
  rotate_left
  · simp only [Act.put, List.setIfInBounds_toArray, List.set_cons_zero, List.set_cons_succ, i64_w, i32_w]
    rfl
  refine pure_ (i := 17) (N := some 111) (v := ?_) (a' := ?_) #[true, true, true, true, true, true, true, true, true, true, true, true, true, true, true, true, true, true, false, false, false, false, false, false, false, false, false, false, false, false, false, false] rfl rfl (by kernel_rfl) (fun _ _ _ h => h) (Or.inl ⟨by rfl, ?_⟩) ?_ ?_
  rotate_left
  · intro w'
    go_simp
    with_reducible rfl
  rotate_left
  · simp only [Act.put, List.setIfInBounds_toArray, List.set_cons_zero, List.set_cons_succ, i64_w, i32_w]
    rfl
  refine pure_ (i := 18) (N := some 112) (v := ?_) (a' := ?_) #[true, true, true, true, true, true, true, true, true, true, true, true, true, true, true, true, true, true, true, false, false, false, false, false, false, false, false, false, false, false, false, false] rfl rfl (by kernel_rfl) (fun _ _ _ h => h) (Or.inl ⟨by rfl, ?_⟩) ?_ ?_
  rotate_left
  · intro w'
    go_simp
    with_reducible rfl
  rotate_left
  · simp only [Act.put, List.setIfInBounds_toArray, List.set_cons_zero, List.set_cons_succ, i64_w, i32_w]
    rfl
  refine pure_ (i := 19) (N := some 113) (v := ?_) (a' := ?_) #[true, true, true, true, true, true, true, true, true, true, true, true, true, true, true, true, true, true, true, true, false, false, false, false, false, false, false, false, false, false, false, false] rfl rfl (by kernel_rfl) (fun _ _ _ h => h) (Or.inl ⟨by rfl, ?_⟩) ?_ ?_
  rotate_left
  · intro w'
    go_simp
    with_reducible rfl
  rotate_left
  · simp only [Act.put, List.setIfInBounds_toArray, List.set_cons_zero, List.set_cons_succ, i64_w, i32_w]
    rfl
  refine pure_ (i := 20) (N := some 114) (v := ?_) (a' := ?_) #[true, true, true, true, true, true, true, true, true, true, true, true, true, true, true, true, true, true, true, true, true, false, false, false, false, false, false, false, false, false, false, false] rfl rfl (by kernel_rfl) (fun _ _ _ h => h) (Or.inl ⟨by rfl, ?_⟩) ?_ ?_
  rotate_left
  · intro w'
    go_simp
    with_reducible rfl
  rotate_left
  · simp only [Act.put, List.setIfInBounds_toArray, List.set_cons_zero, List.set_cons_succ, i64_w, i32_w]
    rfl
  refine pure_ (i := 23) (N := some 117) (v := ?_) (a' := ?_) #[true, true, true, true, true, true, true, true, true, true, true, true, true, true, true, true, true, true, true, true, true, false, false, true, false, false, false, false, false, false, false, false] rfl rfl (by kernel_rfl) (fun _ _ _ h => h) (Or.inl ⟨by rfl, ?_⟩) ?_ ?_
  rotate_left
  · intro w'
    go_simp
    with_reducible rfl
  rotate_left
  · simp only [Act.put, List.setIfInBounds_toArray, List.set_cons_zero, List.set_cons_succ, i64_w, i32_w]
    rfl
  refine take_ (i := 21) (N := some 115) (v := ?_) (a' := ?_) #[true, true, true, true, true, true, true, true, true, true, true, true, true, true, true, true, true, true, true, true, true, true, false, true, false, false, false, false, false, false, false, false] rfl rfl (by kernel_rfl) (fun _ _ _ h => h) (Or.inl ⟨by rfl, ?_⟩) hHeld ?_ ?_
  rotate_left
  · rintro w' ⟨s0, s1, s2, s3, s4, s5, s6, s7, s8⟩
    go_simp
    with_reducible rfl
  rotate_left
  · simp only [Act.put, List.setIfInBounds_toArray, List.set_cons_zero, List.set_cons_succ, i64_w, i32_w]
    rfl
  refine pure_ (i := 22) (N := some 116) (v := ?_) (a' := ?_) #[true, true, true, true, true, true, true, true, true, true, true, true, true, true, true, true, true, true, true, true, true, true, true, true, false, false, false, false, false, false, false, false] rfl rfl (by kernel_rfl) (fun _ _ _ h => h) (Or.inl ⟨by rfl, ?_⟩) ?_ ?_
  rotate_left
  · intro w'
    go_simp
    with_reducible rfl
  rotate_left
  · simp only [Act.put, List.setIfInBounds_toArray, List.set_cons_zero, List.set_cons_succ, i64_w, i32_w]
    rfl
  refine take_ (i := 24) (N := some 118) (v := ?_) (a' := ?_) #[true, true, true, true, true, true, true, true, true, true, true, true, true, true, true, true, true, true, true, true, true, true, true, true, true, false, false, false, false, false, false, false] rfl rfl (by kernel_rfl) (fun _ _ _ h => h) (Or.inl ⟨by rfl, ?_⟩) hHeld ?_ ?_
  rotate_left
  · rintro w' ⟨s0, s1, s2, s3, s4, s5, s6, s7, s8⟩
    go_simp
    with_reducible rfl
  rotate_left
  · simp only [Act.put, List.setIfInBounds_toArray, List.set_cons_zero, List.set_cons_succ, i64_w, i32_w]
    rfl
  refine pure_ (i := 25) (N := some 119) (v := ?_) (a' := ?_) #[true, true, true, true, true, true, true, true, true, true, true, true, true, true, true, true, true, true, true, true, true, true, true, true, true, true, false, false, false, false, false, false] rfl rfl (by kernel_rfl) (fun _ _ _ h => h) (Or.inl ⟨by rfl, ?_⟩) ?_ ?_
  rotate_left
  · intro w'
    go_simp
    with_reducible rfl
  rotate_left
  · simp only [Act.put, List.setIfInBounds_toArray, List.set_cons_zero, List.set_cons_succ, i64_w, i32_w]
    rfl
  refine pure_ (i := 26) (N := some 120) (v := ?_) (a' := ?_) #[true, true, true, true, true, true, true, true, true, true, true, true, true, true, true, true, true, true, true, true, true, true, true, true, true, true, true, false, false, false, false, false] rfl rfl (by kernel_rfl) (fun _ _ _ h => h) (Or.inl ⟨by rfl, ?_⟩) ?_ ?_
  rotate_left
  · intro w'
    go_simp
    with_reducible rfl
  rotate_left
  · simp only [Act.put, List.setIfInBounds_toArray, List.set_cons_zero, List.set_cons_succ, i64_w, i32_w]
    rfl
  refine pure_ (i := 27) (N := some 121) (v := ?_) (a' := ?_) #[true, true, true, true, true, true, true, true, true, true, true, true, true, true, true, true, true, true, true, true, true, true, true, true, true, true, true, true, false, false, false, false] rfl rfl (by kernel_rfl) (fun _ _ _ h => h) (Or.inl ⟨by rfl, ?_⟩) ?_ ?_
  rotate_left
  · intro w'
    go_simp
    with_reducible rfl
  rotate_left
  · simp only [Act.put, List.setIfInBounds_toArray, List.set_cons_zero, List.set_cons_succ, i64_w, i32_w]
    rfl
  refine pure_ (i := 28) (N := some 122) (v := ?_) (a' := ?_) #[true, true, true, true, true, true, true, true, true, true, true, true, true, true, true, true, true, true, true, true, true, true, true, true, true, true, true, true, true, false, false, false] rfl rfl (by kernel_rfl) (fun _ _ _ h => h) (Or.inl ⟨by rfl, ?_⟩) ?_ ?_
  rotate_left
  · intro w'
    go_simp
    with_reducible rfl
  rotate_left
  · simp only [Act.put, List.setIfInBounds_toArray, List.set_cons_zero, List.set_cons_succ, i64_w, i32_w]
    rfl
  refine one_ (i := 29) (N := some 123) #[true, true, true, true, true, true, true, true, true, true, true, true, true, true, true, true, true, true, true, true, true, true, true, true, true, true, true, true, true, true, false, false] rfl rfl (by kernel_rfl) (by decide) (fun K hK => ?_)
  refine goes_ Try.func10 (by kernel_rfl) rfl #[] (by rfl) rfl rfl (by simp) ?_
  with_reducible refine (awakeB HX4.out).mono ?_
  rintro e w9 ⟨rfl, hE, hb⟩
  refine ⟨_, rfl, ?_⟩
  have HE9 := Aside0.mk hE
  have HM9 := Aside0.mk (HM4.out.step hb)
  clear hE hb
  refine hK.out _ _ ⟨(HE9.out.c (List.mem_cons_of_mem _ (List.mem_cons_of_mem _ List.mem_cons_self)) 0), (HE9.out.c (List.mem_cons_of_mem _ List.mem_cons_self) 0), (HE9.out.c (List.mem_cons_of_mem _ List.mem_cons_self) 1), (HE9.out.c (List.mem_cons_of_mem _ List.mem_cons_self) 2), (HE9.out.c List.mem_cons_self 0), (HE9.out.c List.mem_cons_self 1), (HE9.out.c List.mem_cons_self 2), (blk_cell HM9.out.at_.box 1), (blk_cell HM9.out.at_.box 2)⟩ (fun hHeld => ?_)
  clear hK K
  refine norm_ (a' := ?_) ?_ ?_
  rotate_left
  · show Act.put _ (some 123) _ = _
    simp only [Act.put, List.setIfInBounds_toArray, List.set_cons_zero, List.set_cons_succ, i64_w, i32_w]
    rfl
  refine pure_ (i := 30) (N := some 124) (v := ?_) (a' := ?_) #[true, true, true, true, true, true, true, true, true, true, true, true, true, true, true, true, true, true, true, true, true, true, true, true, true, true, true, true, true, true, true, false] rfl rfl (by kernel_rfl) (fun _ _ _ h => h) (Or.inl ⟨by rfl, ?_⟩) ?_ ?_
  rotate_left
  · intro w'
    go_simp
    with_reducible rfl
  rotate_left
  · simp only [Act.put, List.setIfInBounds_toArray, List.set_cons_zero, List.set_cons_succ, i64_w, i32_w]
    rfl
  refine pure_ (i := 31) (N := some 4) (v := ?_) (a' := ?_) #[true, true, true, true, true, true, true, true, true, true, true, true, true, true, true, true, true, true, true, true, true, true, true, true, true, true, true, true, true, true, true, true] rfl rfl (by kernel_rfl) (fun _ _ _ h => h) (Or.inl ⟨by rfl, ?_⟩) ?_ ?_
  rotate_left
  · intro w'
    go_simp
    with_reducible rfl
  rotate_left
  · simp only [Act.put, List.setIfInBounds_toArray, List.set_cons_zero, List.set_cons_succ, i64_w, i32_w]
    rfl
  refine done_ (by kernel_rfl) ?_

  go_wp2
  go_ret
  exact ⟨rfl, HE9.out.below⟩
set_option maxHeartbeats 8000000 in
set_option maxRecDepth 100000 in
theorem ends_B (A0 : Option Addr) (c0 : Nat) (code : List In) (pc : Int) (A2 : Option Addr) (c2 : Nat) (st : List Int) (A3 : Option Addr) (c3 : Nat) (ca : List Int) (mem : ByteArray) (fuel : Int) (s2 : St) (m2 : Mem) (t : Int) (u : Int) (w : World) (hr0 : Kd.C kIn w A0 code.length code) (hc0 : code.length ≤ c0) (hr2 : Kd.C (Kd.int .i64) w A2 st.length st) (hc2 : st.length ≤ c2) (hr3 : Kd.C (Kd.int .i64) w A3 ca.length ca) (hc3 : ca.length ≤ c3) (hmem : mem.size ≤ 140737488355328) (hf : 0 ≤ fuel ∧ fuel ≤ 2000) (hr : runAll code ⟨pc, st, ca⟩ ⟨bytesOf mem, 0, 0⟩ fuel = ⟨s2, m2, 2, t, u, 0⟩) (hm : mayP s2 code.length) (hl : 0 ≤ m2.loads ∧ 0 ≤ m2.stores ∧ m2.loads + m2.stores ≤ u) (hu0 : 0 ≤ u ∧ u ≤ fuel) (hk : t ≠ 0 ∧ 1 ≤ u) :
    Calls Try.prog 5 #[.agg #[.slice A0 code.length c0, .int .i64 pc, .slice A2 st.length c2, .slice A3 ca.length c3, .string mem], .int .i64 fuel] w (BPost w true) := by
  have hu := Try.underlying25
  have hu2 := Try.underlying33
  have hu3 := Try.underlying27
  have HE0 := Aside0.mk ((LE.start w).boxed #[.slice A0 code.length c0, .int .i64 pc, .slice A2 st.length c2, .slice A3 ca.length c3, .string mem] 27 _ rfl (by decide))
  have H0 := Aside0.mk hr0
  have H2 := Aside0.mk hr2
  have H3 := Aside0.mk hr3
  have HC := Aside0.mk (And.intro hc0 (And.intro hc2 (And.intro hc3 hmem)))
  clear hr0 hr2 hr3 hc0 hc2 hc3 hmem
  have hu4 := Try.underlying43
  have HR := Aside0.mk hr
  have HMY := Aside0.mk (decide_eq_true hm)
  have ew : wrap64 (m2.loads + m2.stores) = m2.loads + m2.stores := by unfold wrap64; omega
  have hd0 : decide (m2.loads + m2.stores ≤ u) = true := decide_eq_true hl.2.2
  have u0 : decide (u < 0) = false := decide_eq_false (by omega)
  have u1 : decide (u > fuel) = false := decide_eq_false (by omega)
  have u2 : decide (fuel < u) = false := decide_eq_false (by omega)
  have k0 : (t != 0) = true := by simpa using hk.1
  have k1 : decide (u < 1) = false := decide_eq_false (by omega)
  have t0 : decide (fuel < 0) = false := decide_eq_false (by omega)
  have t1 : decide (fuel > 2000) = false := decide_eq_false (by omega)
  have t2 : decide (2000 < fuel) = false := decide_eq_false (by omega)
  clear hf hr hm hl hu0 hk
  go_enter Try.func5, Try.ntmps5
  go_wp2_with (first
    | (go_at_call 11; (with_reducible refine (fillE HE0.out mem HC.out.2.2.2 (w.heap.size + 1) (by simp)).mono ?_); rintro e w1 ⟨v, rfl, hE, hM, hb⟩; have HE1 := Aside0.mk hE; have HM1 := Aside0.mk hM; have a0 := hE.c List.mem_cons_self 0; have a1 := hE.c List.mem_cons_self 1; have a2 := hE.c List.mem_cons_self 2; have a3 := hE.c List.mem_cons_self 3; have a4 := hE.c List.mem_cons_self 4; clear hE hM hb)
    | (go_at_call 13; (with_reducible refine (runE (s := ⟨pc, st, ca⟩) HE1.out (Kd.C_below H0.out HE1.out.below) HC.out.1 (Kd.C_below H2.out HE1.out.below) (Kd.C_below H3.out HE1.out.below) HM1.out (far_in H0.out HM1.out) HR.out).mono ?_); rintro e w2 ⟨B1, d1, B2, d2, v2, rfl, hE, hM, _, _⟩; try dsimp only at hE hM; have hE2 := hE.res (.int .i64 s2.pc) (.slice B1 s2.st.length d1) (.slice B2 s2.ca.length d2) (.int .i64 2) (.int .i64 t) (.int .i64 u); have HE2 := Aside0.mk hE2; have HM2 := Aside0.mk (hM.step (below_alloc (below_alloc (Below.refl _ _) (.cells #[.int .i64 s2.pc, .slice B1 s2.st.length d1, .slice B2 s2.ca.length d2] 25)) (.cells #[.int .i64 2, .int .i64 t, .int .i64 u] 33))); clear a0 a1 a2 a3 a4; have a0 := hE2.c (List.mem_cons_of_mem _ (List.mem_cons_of_mem _ List.mem_cons_self)) 0; have a1 := hE2.c (List.mem_cons_of_mem _ (List.mem_cons_of_mem _ List.mem_cons_self)) 1; have a2 := hE2.c (List.mem_cons_of_mem _ (List.mem_cons_of_mem _ List.mem_cons_self)) 2; have a3 := hE2.c (List.mem_cons_of_mem _ (List.mem_cons_of_mem _ List.mem_cons_self)) 3; have a4 := hE2.c (List.mem_cons_of_mem _ (List.mem_cons_of_mem _ List.mem_cons_self)) 4; have b0 := hE2.c (List.mem_cons_of_mem _ List.mem_cons_self) 0; have b1 := hE2.c (List.mem_cons_of_mem _ List.mem_cons_self) 1; have b2 := hE2.c (List.mem_cons_of_mem _ List.mem_cons_self) 2; have z0 := hE2.c List.mem_cons_self 0; have z1 := hE2.c List.mem_cons_self 1; have z2 := hE2.c List.mem_cons_self 2; have q0 := blk_cell hM.at_.box 0; have q1 := blk_cell hM.at_.box 1; have q2 := blk_cell hM.at_.box 2; clear hE hE2 hM HE1 HM1))
  have q1_ := blk_cell HM2.out.at_.box 1
  have q2_ := blk_cell HM2.out.at_.box 2
  have HX := Aside0.mk (HE2.out.step (below_drew (Below.refl _ _)))
  have HM3 := Aside0.mk (HM2.out.step (below_drew (Below.refl _ _)))
  refine start_ (n := 32) (S := fun w' => w'.cell? ⟨w.heap.size, 0, none⟩ = some (.slice A0 code.length c0) ∧ w'.cell? ⟨w2.heap.size, 0, none⟩ = some (.int .i64 s2.pc) ∧ w'.cell? ⟨w2.heap.size, 1, none⟩ = some (.slice B1 s2.st.length d1) ∧ w'.cell? ⟨w2.heap.size, 2, none⟩ = some (.slice B2 s2.ca.length d2) ∧ w'.cell? ⟨w2.heap.size + 1, 0, none⟩ = some (.int .i64 2) ∧ w'.cell? ⟨w2.heap.size + 1, 1, none⟩ = some (.int .i64 t) ∧ w'.cell? ⟨w2.heap.size + 1, 2, none⟩ = some (.int .i64 u) ∧ w'.cell? ⟨w.heap.size + 1, 1, none⟩ = some (.int .i64 m2.loads) ∧ w'.cell? ⟨w.heap.size + 1, 2, none⟩ = some (.int .i64 m2.stores)) (ds := []) #[false, false, false, false, false, false, false, false, false, false, false, false, false, false, false, false, false, false, false, false, false, false, false, false, false, false, false, false, false, false, false, false] (by kernel_rfl) rfl rfl ⟨a0, b0, b1, b2, z0, z1, z2, q1_, q2_⟩ (fun hHeld => ?_)
  refine pure_ (i := 1) (N := some 95) (v := ?_) (a' := ?_) #[false, true, false, false, false, false, false, false, false, false, false, false, false, false, false, false, false, false, false, false, false, false, false, false, false, false, false, false, false, false, false, false] rfl rfl (by kernel_rfl) (fun _ _ _ h => h) (Or.inl ⟨by rfl, ?_⟩) ?_ ?_
  rotate_left
  · intro w'
    go_simp
    with_reducible rfl
  rotate_left
  · simp only [Act.put, List.setIfInBounds_toArray, List.set_cons_zero, List.set_cons_succ, i64_w, i32_w]
    rfl
  refine take_ (i := 0) (N := some 94) (v := ?_) (a' := ?_) #[true, true, false, false, false, false, false, false, false, false, false, false, false, false, false, false, false, false, false, false, false, false, false, false, false, false, false, false, false, false, false, false] rfl rfl (by kernel_rfl) (fun _ _ _ h => h) (Or.inl ⟨by rfl, ?_⟩) hHeld ?_ ?_
  rotate_left
  · rintro w' ⟨s0, s1, s2, s3, s4, s5, s6, s7, s8⟩
    go_simp
    with_reducible rfl
  rotate_left
  · simp only [Act.put, List.setIfInBounds_toArray, List.set_cons_zero, List.set_cons_succ, i64_w, i32_w]
    rfl
  refine take_ (i := 2) (N := some 96) (v := ?_) (a' := ?_) #[true, true, true, false, false, false, false, false, false, false, false, false, false, false, false, false, false, false, false, false, false, false, false, false, false, false, false, false, false, false, false, false] rfl rfl (by kernel_rfl) (fun _ _ _ h => h) (Or.inl ⟨by rfl, ?_⟩) hHeld ?_ ?_
  rotate_left
  · rintro w' ⟨s0, s1, s2, s3, s4, s5, s6, s7, s8⟩
    go_simp
    with_reducible rfl
  rotate_left
  · simp only [Act.put, List.setIfInBounds_toArray, List.set_cons_zero, List.set_cons_succ, i64_w, i32_w]
    rfl
  refine pure_ (i := 3) (N := some 97) (v := ?_) (a' := ?_) #[true, true, true, true, false, false, false, false, false, false, false, false, false, false, false, false, false, false, false, false, false, false, false, false, false, false, false, false, false, false, false, false] rfl rfl (by kernel_rfl) (fun _ _ _ h => h) (Or.inl ⟨by rfl, ?_⟩) ?_ ?_
  rotate_left
  · intro w'
    go_simp
    with_reducible rfl
  rotate_left
  · simp only [Act.put, List.setIfInBounds_toArray, List.set_cons_zero, List.set_cons_succ, i64_w, i32_w]
    rfl
  refine one_ (i := 4) (N := some 98) #[true, true, true, true, true, false, false, false, false, false, false, false, false, false, false, false, false, false, false, false, false, false, false, false, false, false, false, false, false, false, false, false] rfl rfl (by kernel_rfl) (by decide) (fun K hK => ?_)
  refine goes_ Try.func17 (by kernel_rfl) rfl #[.agg #[.int .i64 s2.pc, .slice B1 s2.st.length d1, .slice B2 s2.ca.length d2], .int .i64 (code.length : Int)] (by rfl) rfl rfl (by simp only [List.map_toArray, List.map_cons, List.map_nil]; rfl) ?_
  with_reducible refine (rmayB HX.out (HX.out.r List.mem_cons_self) (HX.out.r (List.mem_cons_of_mem _ List.mem_cons_self)) HMY.out).mono ?_
  rintro e w4 ⟨rfl, hE, hb⟩
  refine ⟨_, rfl, ?_⟩
  have HX4 := Aside0.mk hE
  have HM4 := Aside0.mk (HM3.out.step hb)
  clear hE hb
  refine hK.out _ _ ⟨(HX4.out.c (List.mem_cons_of_mem _ (List.mem_cons_of_mem _ List.mem_cons_self)) 0), (HX4.out.c (List.mem_cons_of_mem _ List.mem_cons_self) 0), (HX4.out.c (List.mem_cons_of_mem _ List.mem_cons_self) 1), (HX4.out.c (List.mem_cons_of_mem _ List.mem_cons_self) 2), (HX4.out.c List.mem_cons_self 0), (HX4.out.c List.mem_cons_self 1), (HX4.out.c List.mem_cons_self 2), (blk_cell HM4.out.at_.box 1), (blk_cell HM4.out.at_.box 2)⟩ (fun hHeld => ?_)
  clear hK K
  refine norm_ (a' := ?_) ?_ ?_
  rotate_left
  · show Act.put _ (some 98) _ = _
    simp only [Act.put, List.setIfInBounds_toArray, List.set_cons_zero, List.set_cons_succ, i64_w, i32_w]
    rfl
  refine pure_ (i := 5) (N := some 99) (v := ?_) (a' := ?_) #[true, true, true, true, true, true, false, false, false, false, false, false, false, false, false, false, false, false, false, false, false, false, false, false, false, false, false, false, false, false, false, false] rfl rfl (by kernel_rfl) (fun _ _ _ h => h) (Or.inl ⟨by rfl, ?_⟩) ?_ ?_
  rotate_left
  · intro w'
    go_simp
    with_reducible rfl
  rotate_left
  · simp only [Act.put, List.setIfInBounds_toArray, List.set_cons_zero, List.set_cons_succ, i64_w, i32_w]
    rfl
  refine pure_ (i := 6) (N := some 100) (v := ?_) (a' := ?_) #[true, true, true, true, true, true, true, false, false, false, false, false, false, false, false, false, false, false, false, false, false, false, false, false, false, false, false, false, false, false, false, false] rfl rfl (by kernel_rfl) (fun _ _ _ h => h) (Or.inl ⟨by rfl, ?_⟩) ?_ ?_
  rotate_left
  · intro w'
    go_simp
    with_reducible rfl
  rotate_left
  · simp only [Act.put, List.setIfInBounds_toArray, List.set_cons_zero, List.set_cons_succ, i64_w, i32_w]
    rfl
  refine pure_ (i := 7) (N := some 101) (v := ?_) (a' := ?_) #[true, true, true, true, true, true, true, true, false, false, false, false, false, false, false, false, false, false, false, false, false, false, false, false, false, false, false, false, false, false, false, false] rfl rfl (by kernel_rfl) (fun _ _ _ h => h) (Or.inl ⟨by rfl, ?_⟩) ?_ ?_
  rotate_left
  · intro w'
    go_simp
    with_reducible rfl
  rotate_left
  · simp only [Act.put, List.setIfInBounds_toArray, List.set_cons_zero, List.set_cons_succ, i64_w, i32_w]
    rfl
  refine pure_ (i := 8) (N := some 102) (v := ?_) (a' := ?_) #[true, true, true, true, true, true, true, true, true, false, false, false, false, false, false, false, false, false, false, false, false, false, false, false, false, false, false, false, false, false, false, false] rfl rfl (by kernel_rfl) (fun _ _ _ h => h) (Or.inl ⟨by rfl, ?_⟩) ?_ ?_
  rotate_left
  · intro w'
    go_simp
    with_reducible rfl
  rotate_left
  · simp only [Act.put, List.setIfInBounds_toArray, List.set_cons_zero, List.set_cons_succ, i64_w, i32_w]
    rfl
  refine pure_ (i := 10) (N := some 104) (v := ?_) (a' := ?_) #[true, true, true, true, true, true, true, true, true, false, true, false, false, false, false, false, false, false, false, false, false, false, false, false, false, false, false, false, false, false, false, false] rfl rfl (by kernel_rfl) (fun _ _ _ h => h) (Or.inl ⟨by rfl, ?_⟩) ?_ ?_
  rotate_left
  · intro w'
    go_simp
    with_reducible rfl
  rotate_left
  · simp only [Act.put, List.setIfInBounds_toArray, List.set_cons_zero, List.set_cons_succ, i64_w, i32_w]
    rfl
  refine pure_ (i := 11) (N := some 105) (v := ?_) (a' := ?_) #[true, true, true, true, true, true, true, true, true, false, true, true, false, false, false, false, false, false, false, false, false, false, false, false, false, false, false, false, false, false, false, false] rfl rfl (by kernel_rfl) (fun _ _ _ h => h) (Or.inl ⟨by rfl, ?_⟩) ?_ ?_
  rotate_left
  · intro w'
    go_simp
    with_reducible rfl
  rotate_left
  · simp only [Act.put, List.setIfInBounds_toArray, List.set_cons_zero, List.set_cons_succ, i64_w, i32_w]
    rfl
  refine pure_ (i := 12) (N := some 106) (v := ?_) (a' := ?_) #[true, true, true, true, true, true, true, true, true, false, true, true, true, false, false, false, false, false, false, false, false, false, false, false, false, false, false, false, false, false, false, false] rfl rfl (by kernel_rfl) (fun _ _ _ h => h) (Or.inl ⟨by rfl, ?_⟩) ?_ ?_
  rotate_left
  · intro w'
    go_simp
    with_reducible rfl
  rotate_left
  · simp only [Act.put, List.setIfInBounds_toArray, List.set_cons_zero, List.set_cons_succ, i64_w, i32_w]
    rfl
  refine pure_ (i := 15) (N := some 109) (v := ?_) (a' := ?_) #[true, true, true, true, true, true, true, true, true, false, true, true, true, false, false, true, false, false, false, false, false, false, false, false, false, false, false, false, false, false, false, false] rfl rfl (by kernel_rfl) (fun _ _ _ h => h) (Or.inl ⟨by rfl, ?_⟩) ?_ ?_
  rotate_left
  · intro w'
    go_simp
    with_reducible rfl
  rotate_left
  · simp only [Act.put, List.setIfInBounds_toArray, List.set_cons_zero, List.set_cons_succ, i64_w, i32_w]
    rfl
  refine take_ (i := 9) (N := some 103) (v := ?_) (a' := ?_) #[true, true, true, true, true, true, true, true, true, true, true, true, true, false, false, true, false, false, false, false, false, false, false, false, false, false, false, false, false, false, false, false] rfl rfl (by kernel_rfl) (fun _ _ _ h => h) (Or.inl ⟨by rfl, ?_⟩) hHeld ?_ ?_
  rotate_left
  · rintro w' ⟨s0, s1, s2, s3, s4, s5, s6, s7, s8⟩
    go_simp
    with_reducible rfl
  rotate_left
  · simp only [Act.put, List.setIfInBounds_toArray, List.set_cons_zero, List.set_cons_succ, i64_w, i32_w]
    rfl
  refine take_ (i := 13) (N := some 107) (v := ?_) (a' := ?_) #[true, true, true, true, true, true, true, true, true, true, true, true, true, true, false, true, false, false, false, false, false, false, false, false, false, false, false, false, false, false, false, false] rfl rfl (by kernel_rfl) (fun _ _ _ h => h) (Or.inl ⟨by rfl, ?_⟩) hHeld ?_ ?_
  rotate_left
  · rintro w' ⟨s0, s1, s2, s3, s4, s5, s6, s7, s8⟩
    go_simp
    with_reducible rfl
  rotate_left
  · simp only [Act.put, List.setIfInBounds_toArray, List.set_cons_zero, List.set_cons_succ, i64_w, i32_w]
    rfl
  refine pure_ (i := 14) (N := some 108) (v := ?_) (a' := ?_) #[true, true, true, true, true, true, true, true, true, true, true, true, true, true, true, true, false, false, false, false, false, false, false, false, false, false, false, false, false, false, false, false] rfl rfl (by kernel_rfl) (fun _ _ _ h => h) (Or.inl ⟨by rfl, ?_⟩) ?_ ?_
  rotate_left
  · intro w'
    go_simp
    with_reducible rfl
  rotate_left
  · simp only [Act.put, List.setIfInBounds_toArray, List.set_cons_zero, List.set_cons_succ, i64_w, i32_w]
    rfl
  refine take_ (i := 16) (N := some 110) (v := ?_) (a' := ?_) #[true, true, true, true, true, true, true, true, true, true, true, true, true, true, true, true, true, false, false, false, false, false, false, false, false, false, false, false, false, false, false, false] rfl rfl (by kernel_rfl) (fun _ _ _ h => h) (Or.inl ⟨by rfl, ?_⟩) hHeld ?_ ?_
  rotate_left
  · rintro w' ⟨s0, s1, s2, s3, s4, s5, s6, s7, s8⟩
    go_simp
    with_reducible rfl
  rotate_left
  · simp only [Act.put, List.setIfInBounds_toArray, List.set_cons_zero, List.set_cons_succ, i64_w, i32_w]
    rfl
  refine pure_ (i := 17) (N := some 111) (v := ?_) (a' := ?_) #[true, true, true, true, true, true, true, true, true, true, true, true, true, true, true, true, true, true, false, false, false, false, false, false, false, false, false, false, false, false, false, false] rfl rfl (by kernel_rfl) (fun _ _ _ h => h) (Or.inl ⟨by rfl, ?_⟩) ?_ ?_
  rotate_left
  · intro w'
    go_simp
    with_reducible rfl
  rotate_left
  · simp only [Act.put, List.setIfInBounds_toArray, List.set_cons_zero, List.set_cons_succ, i64_w, i32_w]
    rfl
  refine pure_ (i := 18) (N := some 112) (v := ?_) (a' := ?_) #[true, true, true, true, true, true, true, true, true, true, true, true, true, true, true, true, true, true, true, false, false, false, false, false, false, false, false, false, false, false, false, false] rfl rfl (by kernel_rfl) (fun _ _ _ h => h) (Or.inl ⟨by rfl, ?_⟩) ?_ ?_
  rotate_left
  · intro w'
    go_simp
    with_reducible rfl
  rotate_left
  · simp only [Act.put, List.setIfInBounds_toArray, List.set_cons_zero, List.set_cons_succ, i64_w, i32_w]
    rfl
  refine pure_ (i := 19) (N := some 113) (v := ?_) (a' := ?_) #[true, true, true, true, true, true, true, true, true, true, true, true, true, true, true, true, true, true, true, true, false, false, false, false, false, false, false, false, false, false, false, false] rfl rfl (by kernel_rfl) (fun _ _ _ h => h) (Or.inl ⟨by rfl, ?_⟩) ?_ ?_
  rotate_left
  · intro w'
    go_simp
    with_reducible rfl
  rotate_left
  · simp only [Act.put, List.setIfInBounds_toArray, List.set_cons_zero, List.set_cons_succ, i64_w, i32_w]
    rfl
  refine pure_ (i := 20) (N := some 114) (v := ?_) (a' := ?_) #[true, true, true, true, true, true, true, true, true, true, true, true, true, true, true, true, true, true, true, true, true, false, false, false, false, false, false, false, false, false, false, false] rfl rfl (by kernel_rfl) (fun _ _ _ h => h) (Or.inl ⟨by rfl, ?_⟩) ?_ ?_
  rotate_left
  · intro w'
    go_simp
    with_reducible rfl
  rotate_left
  · simp only [Act.put, List.setIfInBounds_toArray, List.set_cons_zero, List.set_cons_succ, i64_w, i32_w]
    rfl
  refine pure_ (i := 23) (N := some 117) (v := ?_) (a' := ?_) #[true, true, true, true, true, true, true, true, true, true, true, true, true, true, true, true, true, true, true, true, true, false, false, true, false, false, false, false, false, false, false, false] rfl rfl (by kernel_rfl) (fun _ _ _ h => h) (Or.inl ⟨by rfl, ?_⟩) ?_ ?_
  rotate_left
  · intro w'
    go_simp
    with_reducible rfl
  rotate_left
  · simp only [Act.put, List.setIfInBounds_toArray, List.set_cons_zero, List.set_cons_succ, i64_w, i32_w]
    rfl
  refine take_ (i := 21) (N := some 115) (v := ?_) (a' := ?_) #[true, true, true, true, true, true, true, true, true, true, true, true, true, true, true, true, true, true, true, true, true, true, false, true, false, false, false, false, false, false, false, false] rfl rfl (by kernel_rfl) (fun _ _ _ h => h) (Or.inl ⟨by rfl, ?_⟩) hHeld ?_ ?_
  rotate_left
  · rintro w' ⟨s0, s1, s2, s3, s4, s5, s6, s7, s8⟩
    go_simp
    with_reducible rfl
  rotate_left
  · simp only [Act.put, List.setIfInBounds_toArray, List.set_cons_zero, List.set_cons_succ, i64_w, i32_w]
    rfl
  refine pure_ (i := 22) (N := some 116) (v := ?_) (a' := ?_) #[true, true, true, true, true, true, true, true, true, true, true, true, true, true, true, true, true, true, true, true, true, true, true, true, false, false, false, false, false, false, false, false] rfl rfl (by kernel_rfl) (fun _ _ _ h => h) (Or.inl ⟨by rfl, ?_⟩) ?_ ?_
  rotate_left
  · intro w'
    go_simp
    with_reducible rfl
  rotate_left
  · simp only [Act.put, List.setIfInBounds_toArray, List.set_cons_zero, List.set_cons_succ, i64_w, i32_w]
    rfl
  refine take_ (i := 24) (N := some 118) (v := ?_) (a' := ?_) #[true, true, true, true, true, true, true, true, true, true, true, true, true, true, true, true, true, true, true, true, true, true, true, true, true, false, false, false, false, false, false, false] rfl rfl (by kernel_rfl) (fun _ _ _ h => h) (Or.inl ⟨by rfl, ?_⟩) hHeld ?_ ?_
  rotate_left
  · rintro w' ⟨s0, s1, s2, s3, s4, s5, s6, s7, s8⟩
    go_simp
    with_reducible rfl
  rotate_left
  · simp only [Act.put, List.setIfInBounds_toArray, List.set_cons_zero, List.set_cons_succ, i64_w, i32_w]
    rfl
  refine pure_ (i := 25) (N := some 119) (v := ?_) (a' := ?_) #[true, true, true, true, true, true, true, true, true, true, true, true, true, true, true, true, true, true, true, true, true, true, true, true, true, true, false, false, false, false, false, false] rfl rfl (by kernel_rfl) (fun _ _ _ h => h) (Or.inl ⟨by rfl, ?_⟩) ?_ ?_
  rotate_left
  · intro w'
    go_simp
    with_reducible rfl
  rotate_left
  · simp only [Act.put, List.setIfInBounds_toArray, List.set_cons_zero, List.set_cons_succ, i64_w, i32_w]
    rfl
  refine pure_ (i := 26) (N := some 120) (v := ?_) (a' := ?_) #[true, true, true, true, true, true, true, true, true, true, true, true, true, true, true, true, true, true, true, true, true, true, true, true, true, true, true, false, false, false, false, false] rfl rfl (by kernel_rfl) (fun _ _ _ h => h) (Or.inl ⟨by rfl, ?_⟩) ?_ ?_
  rotate_left
  · intro w'
    go_simp
    with_reducible rfl
  rotate_left
  · simp only [Act.put, List.setIfInBounds_toArray, List.set_cons_zero, List.set_cons_succ, i64_w, i32_w]
    rfl
  refine pure_ (i := 27) (N := some 121) (v := ?_) (a' := ?_) #[true, true, true, true, true, true, true, true, true, true, true, true, true, true, true, true, true, true, true, true, true, true, true, true, true, true, true, true, false, false, false, false] rfl rfl (by kernel_rfl) (fun _ _ _ h => h) (Or.inl ⟨by rfl, ?_⟩) ?_ ?_
  rotate_left
  · intro w'
    go_simp
    with_reducible rfl
  rotate_left
  · simp only [Act.put, List.setIfInBounds_toArray, List.set_cons_zero, List.set_cons_succ, i64_w, i32_w]
    rfl
  refine pure_ (i := 28) (N := some 122) (v := ?_) (a' := ?_) #[true, true, true, true, true, true, true, true, true, true, true, true, true, true, true, true, true, true, true, true, true, true, true, true, true, true, true, true, true, false, false, false] rfl rfl (by kernel_rfl) (fun _ _ _ h => h) (Or.inl ⟨by rfl, ?_⟩) ?_ ?_
  rotate_left
  · intro w'
    go_simp
    with_reducible rfl
  rotate_left
  · simp only [Act.put, List.setIfInBounds_toArray, List.set_cons_zero, List.set_cons_succ, i64_w, i32_w]
    rfl
  refine one_ (i := 29) (N := some 123) #[true, true, true, true, true, true, true, true, true, true, true, true, true, true, true, true, true, true, true, true, true, true, true, true, true, true, true, true, true, true, false, false] rfl rfl (by kernel_rfl) (by decide) (fun K hK => ?_)
  refine goes_ Try.func10 (by kernel_rfl) rfl #[] (by rfl) rfl rfl (by simp) ?_
  with_reducible refine (awakeB HX4.out).mono ?_
  rintro e w9 ⟨rfl, hE, hb⟩
  refine ⟨_, rfl, ?_⟩
  have HE9 := Aside0.mk hE
  have HM9 := Aside0.mk (HM4.out.step hb)
  clear hE hb
  refine hK.out _ _ ⟨(HE9.out.c (List.mem_cons_of_mem _ (List.mem_cons_of_mem _ List.mem_cons_self)) 0), (HE9.out.c (List.mem_cons_of_mem _ List.mem_cons_self) 0), (HE9.out.c (List.mem_cons_of_mem _ List.mem_cons_self) 1), (HE9.out.c (List.mem_cons_of_mem _ List.mem_cons_self) 2), (HE9.out.c List.mem_cons_self 0), (HE9.out.c List.mem_cons_self 1), (HE9.out.c List.mem_cons_self 2), (blk_cell HM9.out.at_.box 1), (blk_cell HM9.out.at_.box 2)⟩ (fun hHeld => ?_)
  clear hK K
  refine norm_ (a' := ?_) ?_ ?_
  rotate_left
  · show Act.put _ (some 123) _ = _
    simp only [Act.put, List.setIfInBounds_toArray, List.set_cons_zero, List.set_cons_succ, i64_w, i32_w]
    rfl
  refine pure_ (i := 30) (N := some 124) (v := ?_) (a' := ?_) #[true, true, true, true, true, true, true, true, true, true, true, true, true, true, true, true, true, true, true, true, true, true, true, true, true, true, true, true, true, true, true, false] rfl rfl (by kernel_rfl) (fun _ _ _ h => h) (Or.inl ⟨by rfl, ?_⟩) ?_ ?_
  rotate_left
  · intro w'
    go_simp
    with_reducible rfl
  rotate_left
  · simp only [Act.put, List.setIfInBounds_toArray, List.set_cons_zero, List.set_cons_succ, i64_w, i32_w]
    rfl
  refine pure_ (i := 31) (N := some 4) (v := ?_) (a' := ?_) #[true, true, true, true, true, true, true, true, true, true, true, true, true, true, true, true, true, true, true, true, true, true, true, true, true, true, true, true, true, true, true, true] rfl rfl (by kernel_rfl) (fun _ _ _ h => h) (Or.inl ⟨by rfl, ?_⟩) ?_ ?_
  rotate_left
  · intro w'
    go_simp
    with_reducible rfl
  rotate_left
  · simp only [Act.put, List.setIfInBounds_toArray, List.set_cons_zero, List.set_cons_succ, i64_w, i32_w]
    rfl
  refine done_ (by kernel_rfl) ?_

  go_wp2
  go_ret
  exact ⟨rfl, HE9.out.below⟩
set_option maxHeartbeats 8000000 in
set_option maxRecDepth 100000 in
theorem ends_C (A0 : Option Addr) (c0 : Nat) (code : List In) (pc : Int) (A2 : Option Addr) (c2 : Nat) (st : List Int) (A3 : Option Addr) (c3 : Nat) (ca : List Int) (mem : ByteArray) (fuel : Int) (s2 : St) (m2 : Mem) (k : Int) (u : Int) (w : World) (hr0 : Kd.C kIn w A0 code.length code) (hc0 : code.length ≤ c0) (hr2 : Kd.C (Kd.int .i64) w A2 st.length st) (hc2 : st.length ≤ c2) (hr3 : Kd.C (Kd.int .i64) w A3 ca.length ca) (hc3 : ca.length ≤ c3) (hmem : mem.size ≤ 140737488355328) (hf : 0 ≤ fuel ∧ fuel ≤ 2000) (hr : runAll code ⟨pc, st, ca⟩ ⟨bytesOf mem, 0, 0⟩ fuel = ⟨s2, m2, k, 0, u, 0⟩) (hm : mayP s2 code.length) (hl : 0 ≤ m2.loads ∧ 0 ≤ m2.stores ∧ m2.loads + m2.stores ≤ u) (hu0 : 0 ≤ u ∧ u ≤ fuel) (hk : (k ≠ 1 ∧ k ≠ 2) ∧ 1 ≤ u) :
    Calls Try.prog 5 #[.agg #[.slice A0 code.length c0, .int .i64 pc, .slice A2 st.length c2, .slice A3 ca.length c3, .string mem], .int .i64 fuel] w (BPost w true) := by
  have hu := Try.underlying25
  have hu2 := Try.underlying33
  have hu3 := Try.underlying27
  have HE0 := Aside0.mk ((LE.start w).boxed #[.slice A0 code.length c0, .int .i64 pc, .slice A2 st.length c2, .slice A3 ca.length c3, .string mem] 27 _ rfl (by decide))
  have H0 := Aside0.mk hr0
  have H2 := Aside0.mk hr2
  have H3 := Aside0.mk hr3
  have HC := Aside0.mk (And.intro hc0 (And.intro hc2 (And.intro hc3 hmem)))
  clear hr0 hr2 hr3 hc0 hc2 hc3 hmem
  have hu4 := Try.underlying43
  have HR := Aside0.mk hr
  have HMY := Aside0.mk (decide_eq_true hm)
  have ew : wrap64 (m2.loads + m2.stores) = m2.loads + m2.stores := by unfold wrap64; omega
  have hd0 : decide (m2.loads + m2.stores ≤ u) = true := decide_eq_true hl.2.2
  have u0 : decide (u < 0) = false := decide_eq_false (by omega)
  have u1 : decide (u > fuel) = false := decide_eq_false (by omega)
  have u2 : decide (fuel < u) = false := decide_eq_false (by omega)
  have k0 : (k == 1) = false := by simpa using hk.1.1
  have k2 : (k == 2) = false := by simpa using hk.1.2
  have k3 : (k != 1) = true := by simpa using hk.1.1
  have k1 : decide (u < 1) = false := decide_eq_false (by omega)
  have t0 : decide (fuel < 0) = false := decide_eq_false (by omega)
  have t1 : decide (fuel > 2000) = false := decide_eq_false (by omega)
  have t2 : decide (2000 < fuel) = false := decide_eq_false (by omega)
  clear hf hr hm hl hu0 hk
  go_enter Try.func5, Try.ntmps5
  go_wp2_with (first
    | (go_at_call 11; (with_reducible refine (fillE HE0.out mem HC.out.2.2.2 (w.heap.size + 1) (by simp)).mono ?_); rintro e w1 ⟨v, rfl, hE, hM, hb⟩; have HE1 := Aside0.mk hE; have HM1 := Aside0.mk hM; have a0 := hE.c List.mem_cons_self 0; have a1 := hE.c List.mem_cons_self 1; have a2 := hE.c List.mem_cons_self 2; have a3 := hE.c List.mem_cons_self 3; have a4 := hE.c List.mem_cons_self 4; clear hE hM hb)
    | (go_at_call 13; (with_reducible refine (runE (s := ⟨pc, st, ca⟩) HE1.out (Kd.C_below H0.out HE1.out.below) HC.out.1 (Kd.C_below H2.out HE1.out.below) (Kd.C_below H3.out HE1.out.below) HM1.out (far_in H0.out HM1.out) HR.out).mono ?_); rintro e w2 ⟨B1, d1, B2, d2, v2, rfl, hE, hM, _, _⟩; try dsimp only at hE hM; have hE2 := hE.res (.int .i64 s2.pc) (.slice B1 s2.st.length d1) (.slice B2 s2.ca.length d2) (.int .i64 k) (.int .i64 0) (.int .i64 u); have HE2 := Aside0.mk hE2; have HM2 := Aside0.mk (hM.step (below_alloc (below_alloc (Below.refl _ _) (.cells #[.int .i64 s2.pc, .slice B1 s2.st.length d1, .slice B2 s2.ca.length d2] 25)) (.cells #[.int .i64 k, .int .i64 0, .int .i64 u] 33))); clear a0 a1 a2 a3 a4; have a0 := hE2.c (List.mem_cons_of_mem _ (List.mem_cons_of_mem _ List.mem_cons_self)) 0; have a1 := hE2.c (List.mem_cons_of_mem _ (List.mem_cons_of_mem _ List.mem_cons_self)) 1; have a2 := hE2.c (List.mem_cons_of_mem _ (List.mem_cons_of_mem _ List.mem_cons_self)) 2; have a3 := hE2.c (List.mem_cons_of_mem _ (List.mem_cons_of_mem _ List.mem_cons_self)) 3; have a4 := hE2.c (List.mem_cons_of_mem _ (List.mem_cons_of_mem _ List.mem_cons_self)) 4; have b0 := hE2.c (List.mem_cons_of_mem _ List.mem_cons_self) 0; have b1 := hE2.c (List.mem_cons_of_mem _ List.mem_cons_self) 1; have b2 := hE2.c (List.mem_cons_of_mem _ List.mem_cons_self) 2; have z0 := hE2.c List.mem_cons_self 0; have z1 := hE2.c List.mem_cons_self 1; have z2 := hE2.c List.mem_cons_self 2; have q0 := blk_cell hM.at_.box 0; have q1 := blk_cell hM.at_.box 1; have q2 := blk_cell hM.at_.box 2; clear hE hE2 hM HE1 HM1))
  have q1_ := blk_cell HM2.out.at_.box 1
  have q2_ := blk_cell HM2.out.at_.box 2
  have HX := Aside0.mk (HE2.out.step (below_drew (Below.refl _ _)))
  have HM3 := Aside0.mk (HM2.out.step (below_drew (Below.refl _ _)))
  refine start_ (n := 32) (S := fun w' => w'.cell? ⟨w.heap.size, 0, none⟩ = some (.slice A0 code.length c0) ∧ w'.cell? ⟨w2.heap.size, 0, none⟩ = some (.int .i64 s2.pc) ∧ w'.cell? ⟨w2.heap.size, 1, none⟩ = some (.slice B1 s2.st.length d1) ∧ w'.cell? ⟨w2.heap.size, 2, none⟩ = some (.slice B2 s2.ca.length d2) ∧ w'.cell? ⟨w2.heap.size + 1, 0, none⟩ = some (.int .i64 k) ∧ w'.cell? ⟨w2.heap.size + 1, 1, none⟩ = some (.int .i64 0) ∧ w'.cell? ⟨w2.heap.size + 1, 2, none⟩ = some (.int .i64 u) ∧ w'.cell? ⟨w.heap.size + 1, 1, none⟩ = some (.int .i64 m2.loads) ∧ w'.cell? ⟨w.heap.size + 1, 2, none⟩ = some (.int .i64 m2.stores)) (ds := []) #[false, false, false, false, false, false, false, false, false, false, false, false, false, false, false, false, false, false, false, false, false, false, false, false, false, false, false, false, false, false, false, false] (by kernel_rfl) rfl rfl ⟨a0, b0, b1, b2, z0, z1, z2, q1_, q2_⟩ (fun hHeld => ?_)
  refine pure_ (i := 1) (N := some 95) (v := ?_) (a' := ?_) #[false, true, false, false, false, false, false, false, false, false, false, false, false, false, false, false, false, false, false, false, false, false, false, false, false, false, false, false, false, false, false, false] rfl rfl (by kernel_rfl) (fun _ _ _ h => h) (Or.inl ⟨by rfl, ?_⟩) ?_ ?_
  rotate_left
  · intro w'
    go_simp
    with_reducible rfl
  rotate_left
  · simp only [Act.put, List.setIfInBounds_toArray, List.set_cons_zero, List.set_cons_succ, i64_w, i32_w]
    rfl
  refine take_ (i := 0) (N := some 94) (v := ?_) (a' := ?_) #[true, true, false, false, false, false, false, false, false, false, false, false, false, false, false, false, false, false, false, false, false, false, false, false, false, false, false, false, false, false, false, false] rfl rfl (by kernel_rfl) (fun _ _ _ h => h) (Or.inl ⟨by rfl, ?_⟩) hHeld ?_ ?_
  rotate_left
  · rintro w' ⟨s0, s1, s2, s3, s4, s5, s6, s7, s8⟩
    go_simp
    with_reducible rfl
  rotate_left
  · simp only [Act.put, List.setIfInBounds_toArray, List.set_cons_zero, List.set_cons_succ, i64_w, i32_w]
    rfl
  refine take_ (i := 2) (N := some 96) (v := ?_) (a' := ?_) #[true, true, true, false, false, false, false, false, false, false, false, false, false, false, false, false, false, false, false, false, false, false, false, false, false, false, false, false, false, false, false, false] rfl rfl (by kernel_rfl) (fun _ _ _ h => h) (Or.inl ⟨by rfl, ?_⟩) hHeld ?_ ?_
  rotate_left
  · rintro w' ⟨s0, s1, s2, s3, s4, s5, s6, s7, s8⟩
    go_simp
    with_reducible rfl
  rotate_left
  · simp only [Act.put, List.setIfInBounds_toArray, List.set_cons_zero, List.set_cons_succ, i64_w, i32_w]
    rfl
  refine pure_ (i := 3) (N := some 97) (v := ?_) (a' := ?_) #[true, true, true, true, false, false, false, false, false, false, false, false, false, false, false, false, false, false, false, false, false, false, false, false, false, false, false, false, false, false, false, false] rfl rfl (by kernel_rfl) (fun _ _ _ h => h) (Or.inl ⟨by rfl, ?_⟩) ?_ ?_
  rotate_left
  · intro w'
    go_simp
    with_reducible rfl
  rotate_left
  · simp only [Act.put, List.setIfInBounds_toArray, List.set_cons_zero, List.set_cons_succ, i64_w, i32_w]
    rfl
  refine one_ (i := 4) (N := some 98) #[true, true, true, true, true, false, false, false, false, false, false, false, false, false, false, false, false, false, false, false, false, false, false, false, false, false, false, false, false, false, false, false] rfl rfl (by kernel_rfl) (by decide) (fun K hK => ?_)
  refine goes_ Try.func17 (by kernel_rfl) rfl #[.agg #[.int .i64 s2.pc, .slice B1 s2.st.length d1, .slice B2 s2.ca.length d2], .int .i64 (code.length : Int)] (by rfl) rfl rfl (by simp only [List.map_toArray, List.map_cons, List.map_nil]; rfl) ?_
  with_reducible refine (rmayB HX.out (HX.out.r List.mem_cons_self) (HX.out.r (List.mem_cons_of_mem _ List.mem_cons_self)) HMY.out).mono ?_
  rintro e w4 ⟨rfl, hE, hb⟩
  refine ⟨_, rfl, ?_⟩
  have HX4 := Aside0.mk hE
  have HM4 := Aside0.mk (HM3.out.step hb)
  clear hE hb
  refine hK.out _ _ ⟨(HX4.out.c (List.mem_cons_of_mem _ (List.mem_cons_of_mem _ List.mem_cons_self)) 0), (HX4.out.c (List.mem_cons_of_mem _ List.mem_cons_self) 0), (HX4.out.c (List.mem_cons_of_mem _ List.mem_cons_self) 1), (HX4.out.c (List.mem_cons_of_mem _ List.mem_cons_self) 2), (HX4.out.c List.mem_cons_self 0), (HX4.out.c List.mem_cons_self 1), (HX4.out.c List.mem_cons_self 2), (blk_cell HM4.out.at_.box 1), (blk_cell HM4.out.at_.box 2)⟩ (fun hHeld => ?_)
  clear hK K
  refine norm_ (a' := ?_) ?_ ?_
  rotate_left
  · show Act.put _ (some 98) _ = _
    simp only [Act.put, List.setIfInBounds_toArray, List.set_cons_zero, List.set_cons_succ, i64_w, i32_w]
    rfl
  refine pure_ (i := 5) (N := some 99) (v := ?_) (a' := ?_) #[true, true, true, true, true, true, false, false, false, false, false, false, false, false, false, false, false, false, false, false, false, false, false, false, false, false, false, false, false, false, false, false] rfl rfl (by kernel_rfl) (fun _ _ _ h => h) (Or.inl ⟨by rfl, ?_⟩) ?_ ?_
  rotate_left
  · intro w'
    go_simp
    with_reducible rfl
  rotate_left
  · simp only [Act.put, List.setIfInBounds_toArray, List.set_cons_zero, List.set_cons_succ, i64_w, i32_w]
    rfl
  refine pure_ (i := 6) (N := some 100) (v := ?_) (a' := ?_) #[true, true, true, true, true, true, true, false, false, false, false, false, false, false, false, false, false, false, false, false, false, false, false, false, false, false, false, false, false, false, false, false] rfl rfl (by kernel_rfl) (fun _ _ _ h => h) (Or.inl ⟨by rfl, ?_⟩) ?_ ?_
  rotate_left
  · intro w'
    go_simp
    with_reducible rfl
  rotate_left
  · simp only [Act.put, List.setIfInBounds_toArray, List.set_cons_zero, List.set_cons_succ, i64_w, i32_w]
    rfl
  refine pure_ (i := 7) (N := some 101) (v := ?_) (a' := ?_) #[true, true, true, true, true, true, true, true, false, false, false, false, false, false, false, false, false, false, false, false, false, false, false, false, false, false, false, false, false, false, false, false] rfl rfl (by kernel_rfl) (fun _ _ _ h => h) (Or.inl ⟨by rfl, ?_⟩) ?_ ?_
  rotate_left
  · intro w'
    go_simp
    with_reducible rfl
  rotate_left
  · simp only [Act.put, List.setIfInBounds_toArray, List.set_cons_zero, List.set_cons_succ, i64_w, i32_w]
    rfl
  refine pure_ (i := 8) (N := some 102) (v := ?_) (a' := ?_) #[true, true, true, true, true, true, true, true, true, false, false, false, false, false, false, false, false, false, false, false, false, false, false, false, false, false, false, false, false, false, false, false] rfl rfl (by kernel_rfl) (fun _ _ _ h => h) (Or.inl ⟨by rfl, ?_⟩) ?_ ?_
  rotate_left
  · intro w'
    go_simp
    with_reducible rfl
  rotate_left
  · simp only [Act.put, List.setIfInBounds_toArray, List.set_cons_zero, List.set_cons_succ, i64_w, i32_w]
    rfl
  refine pure_ (i := 10) (N := some 104) (v := ?_) (a' := ?_) #[true, true, true, true, true, true, true, true, true, false, true, false, false, false, false, false, false, false, false, false, false, false, false, false, false, false, false, false, false, false, false, false] rfl rfl (by kernel_rfl) (fun _ _ _ h => h) (Or.inl ⟨by rfl, ?_⟩) ?_ ?_
  rotate_left
  · intro w'
    go_simp
    with_reducible rfl
  rotate_left
  · simp only [Act.put, List.setIfInBounds_toArray, List.set_cons_zero, List.set_cons_succ, i64_w, i32_w]
    rfl
  refine pure_ (i := 11) (N := some 105) (v := ?_) (a' := ?_) #[true, true, true, true, true, true, true, true, true, false, true, true, false, false, false, false, false, false, false, false, false, false, false, false, false, false, false, false, false, false, false, false] rfl rfl (by kernel_rfl) (fun _ _ _ h => h) (Or.inl ⟨by rfl, ?_⟩) ?_ ?_
  rotate_left
  · intro w'
    go_simp
    with_reducible rfl
  rotate_left
  · simp only [Act.put, List.setIfInBounds_toArray, List.set_cons_zero, List.set_cons_succ, i64_w, i32_w]
    rfl
  refine pure_ (i := 12) (N := some 106) (v := ?_) (a' := ?_) #[true, true, true, true, true, true, true, true, true, false, true, true, true, false, false, false, false, false, false, false, false, false, false, false, false, false, false, false, false, false, false, false] rfl rfl (by kernel_rfl) (fun _ _ _ h => h) (Or.inl ⟨by rfl, ?_⟩) ?_ ?_
  rotate_left
  · intro w'
    go_simp
    with_reducible rfl
  rotate_left
  · simp only [Act.put, List.setIfInBounds_toArray, List.set_cons_zero, List.set_cons_succ, i64_w, i32_w]
    rfl
  refine pure_ (i := 15) (N := some 109) (v := ?_) (a' := ?_) #[true, true, true, true, true, true, true, true, true, false, true, true, true, false, false, true, false, false, false, false, false, false, false, false, false, false, false, false, false, false, false, false] rfl rfl (by kernel_rfl) (fun _ _ _ h => h) (Or.inl ⟨by rfl, ?_⟩) ?_ ?_
  rotate_left
  · intro w'
    go_simp
    with_reducible rfl
  rotate_left
  · simp only [Act.put, List.setIfInBounds_toArray, List.set_cons_zero, List.set_cons_succ, i64_w, i32_w]
    rfl
  refine take_ (i := 9) (N := some 103) (v := ?_) (a' := ?_) #[true, true, true, true, true, true, true, true, true, true, true, true, true, false, false, true, false, false, false, false, false, false, false, false, false, false, false, false, false, false, false, false] rfl rfl (by kernel_rfl) (fun _ _ _ h => h) (Or.inl ⟨by rfl, ?_⟩) hHeld ?_ ?_
  rotate_left
  · rintro w' ⟨s0, s1, s2, s3, s4, s5, s6, s7, s8⟩
    go_simp
    with_reducible rfl
  rotate_left
  · simp only [Act.put, List.setIfInBounds_toArray, List.set_cons_zero, List.set_cons_succ, i64_w, i32_w]
    rfl
  refine take_ (i := 13) (N := some 107) (v := ?_) (a' := ?_) #[true, true, true, true, true, true, true, true, true, true, true, true, true, true, false, true, false, false, false, false, false, false, false, false, false, false, false, false, false, false, false, false] rfl rfl (by kernel_rfl) (fun _ _ _ h => h) (Or.inl ⟨by rfl, ?_⟩) hHeld ?_ ?_
  rotate_left
  · rintro w' ⟨s0, s1, s2, s3, s4, s5, s6, s7, s8⟩
    go_simp
    with_reducible rfl
  rotate_left
  · simp only [Act.put, List.setIfInBounds_toArray, List.set_cons_zero, List.set_cons_succ, i64_w, i32_w]
    rfl
  refine pure_ (i := 14) (N := some 108) (v := ?_) (a' := ?_) #[true, true, true, true, true, true, true, true, true, true, true, true, true, true, true, true, false, false, false, false, false, false, false, false, false, false, false, false, false, false, false, false] rfl rfl (by kernel_rfl) (fun _ _ _ h => h) (Or.inl ⟨by rfl, ?_⟩) ?_ ?_
  rotate_left
  · intro w'
    go_simp
    with_reducible rfl
  rotate_left
  · simp only [Act.put, List.setIfInBounds_toArray, List.set_cons_zero, List.set_cons_succ, i64_w, i32_w]
    rfl
  refine take_ (i := 16) (N := some 110) (v := ?_) (a' := ?_) #[true, true, true, true, true, true, true, true, true, true, true, true, true, true, true, true, true, false, false, false, false, false, false, false, false, false, false, false, false, false, false, false] rfl rfl (by kernel_rfl) (fun _ _ _ h => h) (Or.inl ⟨by rfl, ?_⟩) hHeld ?_ ?_
  rotate_left
  · rintro w' ⟨s0, s1, s2, s3, s4, s5, s6, s7, s8⟩
    go_simp
    with_reducible rfl
  rotate_left
  · simp only [Act.put, List.setIfInBounds_toArray, List.set_cons_zero, List.set_cons_succ, i64_w, i32_w]
    rfl
  refine pure_ (i := 17) (N := some 111) (v := ?_) (a' := ?_) #[true, true, true, true, true, true, true, true, true, true, true, true, true, true, true, true, true, true, false, false, false, false, false, false, false, false, false, false, false, false, false, false] rfl rfl (by kernel_rfl) (fun _ _ _ h => h) (Or.inl ⟨by rfl, ?_⟩) ?_ ?_
  rotate_left
  · intro w'
    go_simp
    with_reducible rfl
  rotate_left
  · simp only [Act.put, List.setIfInBounds_toArray, List.set_cons_zero, List.set_cons_succ, i64_w, i32_w]
    rfl
  refine pure_ (i := 18) (N := some 112) (v := ?_) (a' := ?_) #[true, true, true, true, true, true, true, true, true, true, true, true, true, true, true, true, true, true, true, false, false, false, false, false, false, false, false, false, false, false, false, false] rfl rfl (by kernel_rfl) (fun _ _ _ h => h) (Or.inl ⟨by rfl, ?_⟩) ?_ ?_
  rotate_left
  · intro w'
    go_simp
    with_reducible rfl
  rotate_left
  · simp only [Act.put, List.setIfInBounds_toArray, List.set_cons_zero, List.set_cons_succ, i64_w, i32_w]
    rfl
  refine pure_ (i := 19) (N := some 113) (v := ?_) (a' := ?_) #[true, true, true, true, true, true, true, true, true, true, true, true, true, true, true, true, true, true, true, true, false, false, false, false, false, false, false, false, false, false, false, false] rfl rfl (by kernel_rfl) (fun _ _ _ h => h) (Or.inl ⟨by rfl, ?_⟩) ?_ ?_
  rotate_left
  · intro w'
    go_simp
    with_reducible rfl
  rotate_left
  · simp only [Act.put, List.setIfInBounds_toArray, List.set_cons_zero, List.set_cons_succ, i64_w, i32_w]
    rfl
  refine pure_ (i := 20) (N := some 114) (v := ?_) (a' := ?_) #[true, true, true, true, true, true, true, true, true, true, true, true, true, true, true, true, true, true, true, true, true, false, false, false, false, false, false, false, false, false, false, false] rfl rfl (by kernel_rfl) (fun _ _ _ h => h) (Or.inl ⟨by rfl, ?_⟩) ?_ ?_
  rotate_left
  · intro w'
    go_simp
    with_reducible rfl
  rotate_left
  · simp only [Act.put, List.setIfInBounds_toArray, List.set_cons_zero, List.set_cons_succ, i64_w, i32_w]
    rfl
  refine pure_ (i := 23) (N := some 117) (v := ?_) (a' := ?_) #[true, true, true, true, true, true, true, true, true, true, true, true, true, true, true, true, true, true, true, true, true, false, false, true, false, false, false, false, false, false, false, false] rfl rfl (by kernel_rfl) (fun _ _ _ h => h) (Or.inl ⟨by rfl, ?_⟩) ?_ ?_
  rotate_left
  · intro w'
    go_simp
    with_reducible rfl
  rotate_left
  · simp only [Act.put, List.setIfInBounds_toArray, List.set_cons_zero, List.set_cons_succ, i64_w, i32_w]
    rfl
  refine take_ (i := 21) (N := some 115) (v := ?_) (a' := ?_) #[true, true, true, true, true, true, true, true, true, true, true, true, true, true, true, true, true, true, true, true, true, true, false, true, false, false, false, false, false, false, false, false] rfl rfl (by kernel_rfl) (fun _ _ _ h => h) (Or.inl ⟨by rfl, ?_⟩) hHeld ?_ ?_
  rotate_left
  · rintro w' ⟨s0, s1, s2, s3, s4, s5, s6, s7, s8⟩
    go_simp
    with_reducible rfl
  rotate_left
  · simp only [Act.put, List.setIfInBounds_toArray, List.set_cons_zero, List.set_cons_succ, i64_w, i32_w]
    rfl
  refine pure_ (i := 22) (N := some 116) (v := ?_) (a' := ?_) #[true, true, true, true, true, true, true, true, true, true, true, true, true, true, true, true, true, true, true, true, true, true, true, true, false, false, false, false, false, false, false, false] rfl rfl (by kernel_rfl) (fun _ _ _ h => h) (Or.inl ⟨by rfl, ?_⟩) ?_ ?_
  rotate_left
  · intro w'
    go_simp
    with_reducible rfl
  rotate_left
  · simp only [Act.put, List.setIfInBounds_toArray, List.set_cons_zero, List.set_cons_succ, i64_w, i32_w]
    rfl
  refine take_ (i := 24) (N := some 118) (v := ?_) (a' := ?_) #[true, true, true, true, true, true, true, true, true, true, true, true, true, true, true, true, true, true, true, true, true, true, true, true, true, false, false, false, false, false, false, false] rfl rfl (by kernel_rfl) (fun _ _ _ h => h) (Or.inl ⟨by rfl, ?_⟩) hHeld ?_ ?_
  rotate_left
  · rintro w' ⟨s0, s1, s2, s3, s4, s5, s6, s7, s8⟩
    go_simp
    with_reducible rfl
  rotate_left
  · simp only [Act.put, List.setIfInBounds_toArray, List.set_cons_zero, List.set_cons_succ, i64_w, i32_w]
    rfl
  refine pure_ (i := 25) (N := some 119) (v := ?_) (a' := ?_) #[true, true, true, true, true, true, true, true, true, true, true, true, true, true, true, true, true, true, true, true, true, true, true, true, true, true, false, false, false, false, false, false] rfl rfl (by kernel_rfl) (fun _ _ _ h => h) (Or.inl ⟨by rfl, ?_⟩) ?_ ?_
  rotate_left
  · intro w'
    go_simp
    with_reducible rfl
  rotate_left
  · simp only [Act.put, List.setIfInBounds_toArray, List.set_cons_zero, List.set_cons_succ, i64_w, i32_w]
    rfl
  refine pure_ (i := 26) (N := some 120) (v := ?_) (a' := ?_) #[true, true, true, true, true, true, true, true, true, true, true, true, true, true, true, true, true, true, true, true, true, true, true, true, true, true, true, false, false, false, false, false] rfl rfl (by kernel_rfl) (fun _ _ _ h => h) (Or.inl ⟨by rfl, ?_⟩) ?_ ?_
  rotate_left
  · intro w'
    go_simp
    with_reducible rfl
  rotate_left
  · simp only [Act.put, List.setIfInBounds_toArray, List.set_cons_zero, List.set_cons_succ, i64_w, i32_w]
    rfl
  refine pure_ (i := 27) (N := some 121) (v := ?_) (a' := ?_) #[true, true, true, true, true, true, true, true, true, true, true, true, true, true, true, true, true, true, true, true, true, true, true, true, true, true, true, true, false, false, false, false] rfl rfl (by kernel_rfl) (fun _ _ _ h => h) (Or.inl ⟨by rfl, ?_⟩) ?_ ?_
  rotate_left
  · intro w'
    go_simp
    with_reducible rfl
  rotate_left
  · simp only [Act.put, List.setIfInBounds_toArray, List.set_cons_zero, List.set_cons_succ, i64_w, i32_w]
    rfl
  refine pure_ (i := 28) (N := some 122) (v := ?_) (a' := ?_) #[true, true, true, true, true, true, true, true, true, true, true, true, true, true, true, true, true, true, true, true, true, true, true, true, true, true, true, true, true, false, false, false] rfl rfl (by kernel_rfl) (fun _ _ _ h => h) (Or.inl ⟨by rfl, ?_⟩) ?_ ?_
  rotate_left
  · intro w'
    go_simp
    with_reducible rfl
  rotate_left
  · simp only [Act.put, List.setIfInBounds_toArray, List.set_cons_zero, List.set_cons_succ, i64_w, i32_w]
    rfl
  refine one_ (i := 29) (N := some 123) #[true, true, true, true, true, true, true, true, true, true, true, true, true, true, true, true, true, true, true, true, true, true, true, true, true, true, true, true, true, true, false, false] rfl rfl (by kernel_rfl) (by decide) (fun K hK => ?_)
  refine goes_ Try.func10 (by kernel_rfl) rfl #[] (by rfl) rfl rfl (by simp) ?_
  with_reducible refine (awakeB HX4.out).mono ?_
  rintro e w9 ⟨rfl, hE, hb⟩
  refine ⟨_, rfl, ?_⟩
  have HE9 := Aside0.mk hE
  have HM9 := Aside0.mk (HM4.out.step hb)
  clear hE hb
  refine hK.out _ _ ⟨(HE9.out.c (List.mem_cons_of_mem _ (List.mem_cons_of_mem _ List.mem_cons_self)) 0), (HE9.out.c (List.mem_cons_of_mem _ List.mem_cons_self) 0), (HE9.out.c (List.mem_cons_of_mem _ List.mem_cons_self) 1), (HE9.out.c (List.mem_cons_of_mem _ List.mem_cons_self) 2), (HE9.out.c List.mem_cons_self 0), (HE9.out.c List.mem_cons_self 1), (HE9.out.c List.mem_cons_self 2), (blk_cell HM9.out.at_.box 1), (blk_cell HM9.out.at_.box 2)⟩ (fun hHeld => ?_)
  clear hK K
  refine norm_ (a' := ?_) ?_ ?_
  rotate_left
  · show Act.put _ (some 123) _ = _
    simp only [Act.put, List.setIfInBounds_toArray, List.set_cons_zero, List.set_cons_succ, i64_w, i32_w]
    rfl
  refine pure_ (i := 30) (N := some 124) (v := ?_) (a' := ?_) #[true, true, true, true, true, true, true, true, true, true, true, true, true, true, true, true, true, true, true, true, true, true, true, true, true, true, true, true, true, true, true, false] rfl rfl (by kernel_rfl) (fun _ _ _ h => h) (Or.inl ⟨by rfl, ?_⟩) ?_ ?_
  rotate_left
  · intro w'
    go_simp
    with_reducible rfl
  rotate_left
  · simp only [Act.put, List.setIfInBounds_toArray, List.set_cons_zero, List.set_cons_succ, i64_w, i32_w]
    rfl
  refine pure_ (i := 31) (N := some 4) (v := ?_) (a' := ?_) #[true, true, true, true, true, true, true, true, true, true, true, true, true, true, true, true, true, true, true, true, true, true, true, true, true, true, true, true, true, true, true, true] rfl rfl (by kernel_rfl) (fun _ _ _ h => h) (Or.inl ⟨by rfl, ?_⟩) ?_ ?_
  rotate_left
  · intro w'
    go_simp
    with_reducible rfl
  rotate_left
  · simp only [Act.put, List.setIfInBounds_toArray, List.set_cons_zero, List.set_cons_succ, i64_w, i32_w]
    rfl
  refine done_ (by kernel_rfl) ?_

  go_wp2
  go_ret
  exact ⟨rfl, HE9.out.below⟩
theorem ends_calls (A0 : Option Addr) (c0 : Nat) (code : List In) (pc : Int) (A2 : Option Addr) (c2 : Nat) (st : List Int) (A3 : Option Addr) (c3 : Nat) (ca : List Int) (mem : ByteArray) (fuel : Int) (w : World) (hr0 : Kd.C kIn w A0 code.length code) (hc0 : code.length ≤ c0) (hr2 : Kd.C (Kd.int .i64) w A2 st.length st) (hc2 : st.length ≤ c2) (hr3 : Kd.C (Kd.int .i64) w A3 ca.length ca) (hc3 : ca.length ≤ c3) (hb : mem.size ≤ 140737488351232 ∧ code.length * 16 ≤ 140737488351232 ∧ st.length * 8 ≤ 140737488351232 ∧ ca.length * 8 ≤ 140737488351232 ∧ (Lit.int .i64 fuel).wf = true) : Calls Try.prog 5 #[.agg #[.slice A0 code.length c0, .int .i64 pc, .slice A2 st.length c2, .slice A3 ca.length c3, .string mem], .int .i64 fuel] w (BPost w true) := by
  have hmem : mem.size ≤ 140737488355328 := Nat.le_trans hb.1 (by decide)
  by_cases h0 : fuel < 0
  · exact ends_lo A0 c0 code pc A2 c2 st A3 c3 ca mem fuel w hr0 hc0 hr2 hc2 hr3 hc3 hmem h0
  by_cases h1 : 2000 < fuel
  · exact ends_hi A0 c0 code pc A2 c2 st A3 c3 ca mem fuel w hr0 hc0 hr2 hc2 hr3 hc3 hmem h1
  have hf : 0 ≤ fuel ∧ fuel ≤ 2000 := by omega
  by_cases hx : (chkP code).1 = 0
  · by_cases hm : mayP ⟨pc, st, ca⟩ code.length
    · have hE := runP_ends (chkP_ok.1 hx).2.2 fuel.toNat 0 ⟨pc, st, ca⟩ ⟨bytesOf mem, 0, 0⟩ hm ⟨Int.le_refl 0, Int.le_refl 0, Int.le_refl 0⟩ (by omega)
      have hr : runAll code ⟨pc, st, ca⟩ ⟨bytesOf mem, 0, 0⟩ fuel = ⟨(runP memK code fuel.toNat 0 ⟨pc, st, ca⟩ ⟨bytesOf mem, 0, 0⟩).1, (runP memK code fuel.toNat 0 ⟨pc, st, ca⟩ ⟨bytesOf mem, 0, 0⟩).2.1, (runP memK code fuel.toNat 0 ⟨pc, st, ca⟩ ⟨bytesOf mem, 0, 0⟩).2.2.1, (runP memK code fuel.toNat 0 ⟨pc, st, ca⟩ ⟨bytesOf mem, 0, 0⟩).2.2.2.1, (runP memK code fuel.toNat 0 ⟨pc, st, ca⟩ ⟨bytesOf mem, 0, 0⟩).2.2.2.2, 0⟩ := by
        unfold runAll
        rw [if_neg (not_not_intro hx), if_neg (by rintro (h | h | h); · omega
                                                  · omega
                                                  · exact h hm)]
      generalize runP memK code fuel.toNat 0 ⟨pc, st, ca⟩ ⟨bytesOf mem, 0, 0⟩ = r at hE hr
      obtain ⟨s2, m2, k, t, u⟩ := r
      obtain ⟨g1, g2, h3⟩ := hE
      dsimp only at g1 g2 h3 hr
      have hff : (fuel.toNat : Int) = fuel := by omega
      rcases h3 with ⟨rfl, rfl, h3⟩ | ⟨⟨h3, h4⟩, h5, h6⟩
      · obtain rfl : u = fuel := by omega
        exact ends_A A0 c0 code pc A2 c2 st A3 c3 ca mem u s2 m2 w hr0 hc0 hr2 hc2 hr3 hc3 hmem hf hr g1 g2 (by omega)
      · rcases h3 with h3 | ⟨rfl, h3⟩ | ⟨rfl, rfl⟩ | ⟨rfl, rfl⟩
        · exact absurd h3.1 h4
        · exact ends_B A0 c0 code pc A2 c2 st A3 c3 ca mem fuel s2 m2 t u w hr0 hc0 hr2 hc2 hr3 hc3 hmem hf hr g1 g2 (by omega) ⟨h3, by omega⟩
        · exact ends_C A0 c0 code pc A2 c2 st A3 c3 ca mem fuel s2 m2 3 u w hr0 hc0 hr2 hc2 hr3 hc3 hmem hf hr g1 g2 (by omega) ⟨⟨by decide, by decide⟩, by omega⟩
        · exact ends_C A0 c0 code pc A2 c2 st A3 c3 ca mem fuel s2 m2 4 u w hr0 hc0 hr2 hc2 hr3 hc3 hmem hf hr g1 g2 (by omega) ⟨⟨by decide, by decide⟩, by omega⟩
    · exact ends_may A0 c0 code pc A2 c2 st A3 c3 ca mem fuel w hr0 hc0 hr2 hc2 hr3 hc3 hmem hf hx hm
  · exact ends_chk A0 c0 code pc A2 c2 st A3 c3 ca mem fuel w hr0 hc0 hr2 hc2 hr3 hc3 hmem hf hx
end Go.Proofs.Ytbdamgopggeikaa.VmW
