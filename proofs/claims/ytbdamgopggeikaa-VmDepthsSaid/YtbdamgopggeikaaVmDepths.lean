/- The law VmDepths: calls go 32 deep, a stack has 64 numbers. -/
import Derived.Test.YtbdamgopggeikaaVmSem
namespace Go.Proofs.Ytbdamgopggeikaa.VmW
open Go.RowKit Go.Proofs.YtbdamgopggeikaaW.PrintWords Go.Proofs.YtbdamgopggeikaaW.PrintMore Go.Proofs.YtbdamgopggeikaaW.PrintLast Go.Proofs.Ytbdamgopggeikaa.Pvm
set_option linter.unusedVariables false
set_option linter.unusedSimpArgs false
def dcL : List In := [⟨22, 0⟩]
def dsL (n : Int) : List In := [⟨1, n⟩, ⟨20, 0⟩]
theorem dc_cells : (#[.int .i64 22, .int .i64 0] : Array Value) = (inCells dcL).toArray := rfl
theorem ds_cells (n : Int) : (#[.int .i64 1, .int .i64 n, .int .i64 20, .int .i64 0] : Array Value) = (inCells (dsL n)).toArray := rfl
section
variable {M : Type} (K : MemK M) (n : Int) (m : M)
theorem run1' {code : List In} {s s' : St} {m m' : M} {n u : Nat} (h : stepP K code s m = (s', m', 0, 0)) : runP K code (n + 1) u s m = runP K code n (u + 1) s' m' := by
  conv => lhs; unfold runP
  rw [h]; rfl
theorem runX' {code : List In} {s s' : St} {m m' : M} {n u : Nat} {x y : Int} (h : stepP K code s m = (s', m', x, y)) (hx : x ≠ 0) : runP K code (n + 1) u s m = (s', m', x, y, ((u + 1 : Nat) : Int)) := by
  conv => lhs; unfold runP
  rw [h]; exact if_neg hx
theorem dc_yes (i : Nat) (hi : i < 32) : stepP K dcL ⟨0, [], List.replicate i 1⟩ m = (⟨0, [], List.replicate (i + 1) 1⟩, m, 0, 0) := by
  show (if (List.replicate i (1 : Int)).length = 32 then _ else (_ : St × M × Int × Int)) = _
  rw [if_neg (by simp; omega), List.replicate_succ']; rfl
theorem dc_no : stepP K dcL ⟨0, [], List.replicate 32 1⟩ m = (⟨0, [], List.replicate 32 1⟩, m, 4, 0) := rfl
theorem dc_run (r : Nat) : ∀ (d i u : Nat), i + d ≤ 32 → runP K dcL (d + r) u ⟨0, [], List.replicate i 1⟩ m = runP K dcL r (u + d) ⟨0, [], List.replicate (i + d) 1⟩ m
  | 0, i, u, h => by rw [Nat.zero_add]; rfl
  | d + 1, i, u, h => by
    rw [show d + 1 + r = (d + r) + 1 by omega, run1' K (dc_yes K m i (by omega)), dc_run r d (i + 1) (u + 1) (by omega), show u + 1 + d = u + (d + 1) by omega, show i + 1 + d = i + (d + 1) by omega]
theorem ds_push (i : Nat) (hi : i < 64) : stepP K (dsL n) ⟨0, List.replicate i n, []⟩ m = (⟨1, List.replicate (i + 1) n, []⟩, m, 0, 0) := by
  show (if hasP 1 n (List.replicate i n).length = false then _ else (_ : St × M × Int × Int)) = _
  rw [if_neg (by unfold hasP; simp; omega), List.replicate_succ']; rfl
theorem ds_full : stepP K (dsL n) ⟨0, List.replicate 64 n, []⟩ m = (⟨0, List.replicate 64 n, []⟩, m, 4, 0) := rfl
theorem ds_jump (l : List Int) : stepP K (dsL n) ⟨1, l, []⟩ m = (⟨0, l, []⟩, m, 0, 0) := rfl
theorem ds_run (r : Nat) : ∀ (d i u : Nat), i + d ≤ 64 → runP K (dsL n) (2 * d + r) u ⟨0, List.replicate i n, []⟩ m = runP K (dsL n) r (u + 2 * d) ⟨0, List.replicate (i + d) n, []⟩ m
  | 0, i, u, h => by rw [Nat.mul_zero, Nat.zero_add]; rfl
  | d + 1, i, u, h => by
    rw [show 2 * (d + 1) + r = ((2 * d + r) + 1) + 1 by omega, run1' K (ds_push K n m i (by omega)), run1' K (ds_jump K n m _), ds_run r d (i + 1) (u + 1 + 1) (by omega), show u + 1 + 1 + 2 * d = u + 2 * (d + 1) by omega, show i + 1 + d = i + (d + 1) by omega]
end
theorem runAll_of {code : List In} {m : Mem} {F : Nat} (hc : (chkP code).1 = 0) (hF : F ≤ 1048576) {s : St} {m' : Mem} {x y z : Int} (h : runP memK code F 0 ⟨0, [], []⟩ m = (s, m', x, y, z)) : runAll code ⟨0, [], []⟩ m (F : Int) = ⟨s, m', x, y, z, 0⟩ := by
  unfold runAll
  rw [if_neg (not_not_intro hc), if_neg, Int.toNat_natCast, h]
  rintro (h | h | h)
  · omega
  · omega
  · exact h ⟨Int.le_refl 0, Int.natCast_nonneg _, Nat.zero_le _, Nat.zero_le _, fun x hx => by cases hx⟩
theorem dc_lo (k : Nat) (hk : k ≤ 32) (m : Mem) : runAll dcL ⟨0, [], []⟩ m (k : Int) = ⟨⟨0, [], List.replicate k 1⟩, m, 1, 0, (k : Int), 0⟩ := by
  refine runAll_of rfl (by omega) ?_
  have h := dc_run memK m 0 k 0 0 (by omega)
  rw [Nat.zero_add] at h
  refine Eq.trans h ?_
  show (_, _, _, _, _) = _
  simp
theorem dc_hi (k : Nat) (hk : 32 < k) (hk2 : k ≤ 127) (m : Mem) : runAll dcL ⟨0, [], []⟩ m (k : Int) = ⟨⟨0, [], List.replicate 32 1⟩, m, 4, 0, 33, 0⟩ := by
  refine runAll_of rfl (by omega) ?_
  have h := dc_run memK m (k - 33 + 1) 32 0 0 (by omega)
  rw [show k = 32 + (k - 33 + 1) by omega]
  exact Eq.trans h (runX' memK (dc_no memK m) (by decide))
theorem ds_lo (n : Int) (k : Nat) (hk : k ≤ 64) (m : Mem) : runAll (dsL n) ⟨0, [], []⟩ m ((2 * k : Nat) : Int) = ⟨⟨0, List.replicate k n, []⟩, m, 1, 0, ((2 * k : Nat) : Int), 0⟩ := by
  refine runAll_of rfl (by omega) ?_
  have h := ds_run memK n m 0 k 0 0 (by omega)
  rw [Nat.zero_add] at h
  refine Eq.trans h ?_
  show (_, _, _, _, _) = _
  simp
theorem ds_lo' (n : Int) (k : Nat) (hk : k ≤ 64) (m : Mem) : runAll (dsL n) ⟨0, [], []⟩ m (2 * (k : Int)) = ⟨⟨0, List.replicate k n, []⟩, m, 1, 0, 2 * (k : Int), 0⟩ := ds_lo n k hk m
theorem ds_hi (n : Int) (k : Nat) (hk : 64 < k) (hk2 : k ≤ 127) (m : Mem) : runAll (dsL n) ⟨0, [], []⟩ m ((2 * k : Nat) : Int) = ⟨⟨0, List.replicate 64 n, []⟩, m, 4, 0, 129, 0⟩ := by
  refine runAll_of rfl (by omega) ?_
  have h := ds_run memK n m (2 * k - 129 + 1) 64 0 0 (by omega)
  rw [show 2 * k = 2 * 64 + (2 * k - 129 + 1) by omega]
  exact Eq.trans h (runX' memK (ds_full memK n m) (by decide))
theorem dep_k (a : Int) : ∃ k : Nat, k ≤ 127 ∧ Go.bits .and .i64 a 127 = (k : Int) := ⟨(Go.bits .and .i64 a 127).toNat, by rw [and127]; omega, by rw [and127]; omega⟩
theorem dsl_len (a : Int) : (dsL a).length ≤ 1024 := by show 2 ≤ 1024; decide
theorem dsl_len2 (a : Int) : (dsL a).length ≤ 2 := Nat.le_refl 2
set_option maxHeartbeats 8000000 in
set_option maxRecDepth 100000 in
theorem depths_lo (a : Int) (k : Nat) (hb : Go.bits .and .i64 a 127 = (k : Int)) (h0 : 0 ≤ k) (h1 : k ≤ 32) (w : World) : Calls Try.prog 8 #[.int .i64 a] w (BPost w true) := by
  have hu := Try.underlying25
  have hu2 := Try.underlying33
  have hu3 := Try.underlying51
  have c32 : decide ((k : Int) > 32) = false := by simp; omega
  have c33 : decide (32 < (k : Int)) = false := by simp; omega
  have c64 : decide ((k : Int) > 64) = false := by simp; omega
  have c65 : decide (64 < (k : Int)) = false := by simp; omega
  have m32 : min (k : Int) 32 = (k : Int) := by omega
  have m64 : min (k : Int) 64 = (k : Int) := by omega
  have w2 : wrap64 (2 * (k : Int)) = 2 * (k : Int) := by unfold wrap64; omega
  have HR1 := Aside0.mk (fun m : Mem => (dc_lo k (by omega) m : runAll dcL ⟨0, [], []⟩ m (k : Int) = _))
  have HR2 := Aside0.mk (fun m : Mem => (ds_lo' a k (by omega) m : runAll (dsL a) ⟨0, [], []⟩ m (2 * (k : Int)) = _))
  clear h0 h1
  have T1 := Aside0.mk True.intro
  have HE0 := Aside0.mk ((LE.start w).boxed (inCells dcL).toArray 51 _ rfl (by decide))
  rw [← dc_cells] at HE0
  go_enter Try.func8, Try.ntmps8
  go_wp2_with (first
    | (go_at_call 11; have tok := T1.out; (with_reducible refine (fillE HE0.out ⟨#[]⟩ (by decide) (w.heap.size + 1) (by simp)).mono ?_); rintro e w1 ⟨v1, rfl, hE, hM, hb_⟩; have HE1 := Aside0.mk hE; have HM1 := Aside0.mk hM; clear hE hM hb_ tok T1)
    | (go_at_call 13; (with_reducible refine (runZ HE1.out 1 rfl (HE1.out.code List.mem_cons_self dc_cells (by decide)) (Nat.le_refl 1) HM1.out (HE1.out.codeFar List.mem_cons_self HM1.out) (HR1.out _)).mono ?_); rintro e w2 ⟨B1, d1, B2, d2, v2, rfl, hE, _, _, _⟩; have hE2 := (hE.res (.int .i64 0) (.slice B1 0 d1) (.slice B2 k d2) (.int .i64 1) (.int .i64 0) (.int .i64 (k : Int))).boxed (inCells (dsL a)).toArray 51 (w2.heap.size + 1 + 1) (by simp) (by decide); rw [← ds_cells] at hE2; have HE2 := Aside0.mk hE2; clear hE hE2 HE1 HM1)
    | (go_at_call 11; (with_reducible refine (fillE HE2.out ⟨#[]⟩ (by decide) (w2.heap.size + 1 + 1 + 1) (by simp)).mono ?_); rintro e w3 ⟨v3, rfl, hE, hM, hb_⟩; have HE3 := Aside0.mk hE; have HM3 := Aside0.mk hM; clear hE hM hb_ HE2)
    | (go_at_call 13; (with_reducible refine (runZ HE3.out 2 rfl (HE3.out.code List.mem_cons_self (ds_cells a) (dsl_len a)) (dsl_len2 a) HM3.out (HE3.out.codeFar List.mem_cons_self HM3.out) (HR2.out _)).mono ?_); rintro e w4 ⟨B3, d3, B4, d4, v4, rfl, hE, _, _, _⟩; simp only [List.length_replicate, List.length_nil] at hE; have hE5 := hE.res (.int .i64 0) (.slice B3 k d3) (.slice B4 0 d4) (.int .i64 1) (.int .i64 0) (.int .i64 (2 * (k : Int))); have x0 := hE5.c List.mem_cons_self 0; have y1 := hE5.c (List.mem_cons_of_mem _ List.mem_cons_self) 1; have z0 := hE5.c (List.mem_cons_of_mem _ (List.mem_cons_of_mem _ (List.mem_cons_of_mem _ List.mem_cons_self))) 0; have z2 := hE5.c (List.mem_cons_of_mem _ (List.mem_cons_of_mem _ (List.mem_cons_of_mem _ (List.mem_cons_of_mem _ List.mem_cons_self)))) 2; have HE4 := Aside0.mk hE5; clear hE hE5 HE3 HM3)
    | (go_at_call 10; (with_reducible refine (awakeE HE4.out).mono ?_); rintro e w6 ⟨rfl, hE⟩; have HE6 := Aside0.mk hE; clear hE))
  go_ret
  exact ⟨rfl, HE6.out.below⟩
set_option maxHeartbeats 8000000 in
set_option maxRecDepth 100000 in
theorem depths_mid (a : Int) (k : Nat) (hb : Go.bits .and .i64 a 127 = (k : Int)) (h0 : 32 < k) (h1 : k ≤ 64) (w : World) : Calls Try.prog 8 #[.int .i64 a] w (BPost w true) := by
  have hu := Try.underlying25
  have hu2 := Try.underlying33
  have hu3 := Try.underlying51
  have c32 : decide ((k : Int) > 32) = true := by simp; omega
  have c33 : decide (32 < (k : Int)) = true := by simp; omega
  have c64 : decide ((k : Int) > 64) = false := by simp; omega
  have c65 : decide (64 < (k : Int)) = false := by simp; omega
  have m32 : min (k : Int) 32 = 32 := by omega
  have m64 : min (k : Int) 64 = (k : Int) := by omega
  have w2 : wrap64 (2 * (k : Int)) = 2 * (k : Int) := by unfold wrap64; omega
  have HR1 := Aside0.mk (fun m : Mem => (dc_hi k (by omega) (by omega) m : runAll dcL ⟨0, [], []⟩ m (k : Int) = _))
  have HR2 := Aside0.mk (fun m : Mem => (ds_lo' a k (by omega) m : runAll (dsL a) ⟨0, [], []⟩ m (2 * (k : Int)) = _))
  clear h0 h1
  have T1 := Aside0.mk True.intro
  have HE0 := Aside0.mk ((LE.start w).boxed (inCells dcL).toArray 51 _ rfl (by decide))
  rw [← dc_cells] at HE0
  go_enter Try.func8, Try.ntmps8
  go_wp2_with (first
    | (go_at_call 11; have tok := T1.out; (with_reducible refine (fillE HE0.out ⟨#[]⟩ (by decide) (w.heap.size + 1) (by simp)).mono ?_); rintro e w1 ⟨v1, rfl, hE, hM, hb_⟩; have HE1 := Aside0.mk hE; have HM1 := Aside0.mk hM; clear hE hM hb_ tok T1)
    | (go_at_call 13; (with_reducible refine (runZ HE1.out 1 rfl (HE1.out.code List.mem_cons_self dc_cells (by decide)) (Nat.le_refl 1) HM1.out (HE1.out.codeFar List.mem_cons_self HM1.out) (HR1.out _)).mono ?_); rintro e w2 ⟨B1, d1, B2, d2, v2, rfl, hE, _, _, _⟩; have hE2 := (hE.res (.int .i64 0) (.slice B1 0 d1) (.slice B2 32 d2) (.int .i64 4) (.int .i64 0) (.int .i64 33)).boxed (inCells (dsL a)).toArray 51 (w2.heap.size + 1 + 1) (by simp) (by decide); rw [← ds_cells] at hE2; have HE2 := Aside0.mk hE2; clear hE hE2 HE1 HM1)
    | (go_at_call 11; (with_reducible refine (fillE HE2.out ⟨#[]⟩ (by decide) (w2.heap.size + 1 + 1 + 1) (by simp)).mono ?_); rintro e w3 ⟨v3, rfl, hE, hM, hb_⟩; have HE3 := Aside0.mk hE; have HM3 := Aside0.mk hM; clear hE hM hb_ HE2)
    | (go_at_call 13; (with_reducible refine (runZ HE3.out 2 rfl (HE3.out.code List.mem_cons_self (ds_cells a) (dsl_len a)) (dsl_len2 a) HM3.out (HE3.out.codeFar List.mem_cons_self HM3.out) (HR2.out _)).mono ?_); rintro e w4 ⟨B3, d3, B4, d4, v4, rfl, hE, _, _, _⟩; simp only [List.length_replicate, List.length_nil] at hE; have hE5 := hE.res (.int .i64 0) (.slice B3 k d3) (.slice B4 0 d4) (.int .i64 1) (.int .i64 0) (.int .i64 (2 * (k : Int))); have x0 := hE5.c List.mem_cons_self 0; have y1 := hE5.c (List.mem_cons_of_mem _ List.mem_cons_self) 1; have z0 := hE5.c (List.mem_cons_of_mem _ (List.mem_cons_of_mem _ (List.mem_cons_of_mem _ List.mem_cons_self))) 0; have z2 := hE5.c (List.mem_cons_of_mem _ (List.mem_cons_of_mem _ (List.mem_cons_of_mem _ (List.mem_cons_of_mem _ List.mem_cons_self)))) 2; have HE4 := Aside0.mk hE5; clear hE hE5 HE3 HM3)
    | (go_at_call 10; (with_reducible refine (awakeE HE4.out).mono ?_); rintro e w6 ⟨rfl, hE⟩; have HE6 := Aside0.mk hE; clear hE))
  go_ret
  exact ⟨rfl, HE6.out.below⟩
set_option maxHeartbeats 8000000 in
set_option maxRecDepth 100000 in
theorem depths_hi (a : Int) (k : Nat) (hb : Go.bits .and .i64 a 127 = (k : Int)) (h0 : 64 < k) (h1 : k ≤ 127) (w : World) : Calls Try.prog 8 #[.int .i64 a] w (BPost w true) := by
  have hu := Try.underlying25
  have hu2 := Try.underlying33
  have hu3 := Try.underlying51
  have c32 : decide ((k : Int) > 32) = true := by simp; omega
  have c33 : decide (32 < (k : Int)) = true := by simp; omega
  have c64 : decide ((k : Int) > 64) = true := by simp; omega
  have c65 : decide (64 < (k : Int)) = true := by simp; omega
  have m32 : min (k : Int) 32 = 32 := by omega
  have m64 : min (k : Int) 64 = 64 := by omega
  have w2 : wrap64 (2 * (k : Int)) = ((2 * k : Nat) : Int) := by unfold wrap64; omega
  have HR1 := Aside0.mk (fun m : Mem => (dc_hi k (by omega) (by omega) m : runAll dcL ⟨0, [], []⟩ m (k : Int) = _))
  have HR2 := Aside0.mk (fun m : Mem => (ds_hi a k (by omega) (by omega) m : runAll (dsL a) ⟨0, [], []⟩ m ((2 * k : Nat) : Int) = _))
  generalize (2 * k : Nat) = q at *
  clear h0 h1
  have T1 := Aside0.mk True.intro
  have HE0 := Aside0.mk ((LE.start w).boxed (inCells dcL).toArray 51 _ rfl (by decide))
  rw [← dc_cells] at HE0
  go_enter Try.func8, Try.ntmps8
  go_wp2_with (first
    | (go_at_call 11; have tok := T1.out; (with_reducible refine (fillE HE0.out ⟨#[]⟩ (by decide) (w.heap.size + 1) (by simp)).mono ?_); rintro e w1 ⟨v1, rfl, hE, hM, hb_⟩; have HE1 := Aside0.mk hE; have HM1 := Aside0.mk hM; clear hE hM hb_ tok T1)
    | (go_at_call 13; (with_reducible refine (runZ HE1.out 1 rfl (HE1.out.code List.mem_cons_self dc_cells (by decide)) (Nat.le_refl 1) HM1.out (HE1.out.codeFar List.mem_cons_self HM1.out) (HR1.out _)).mono ?_); rintro e w2 ⟨B1, d1, B2, d2, v2, rfl, hE, _, _, _⟩; have hE2 := (hE.res (.int .i64 0) (.slice B1 0 d1) (.slice B2 32 d2) (.int .i64 4) (.int .i64 0) (.int .i64 33)).boxed (inCells (dsL a)).toArray 51 (w2.heap.size + 1 + 1) (by simp) (by decide); rw [← ds_cells] at hE2; have HE2 := Aside0.mk hE2; clear hE hE2 HE1 HM1)
    | (go_at_call 11; (with_reducible refine (fillE HE2.out ⟨#[]⟩ (by decide) (w2.heap.size + 1 + 1 + 1) (by simp)).mono ?_); rintro e w3 ⟨v3, rfl, hE, hM, hb_⟩; have HE3 := Aside0.mk hE; have HM3 := Aside0.mk hM; clear hE hM hb_ HE2)
    | (go_at_call 13; (with_reducible refine (runZ HE3.out 2 rfl (HE3.out.code List.mem_cons_self (ds_cells a) (dsl_len a)) (dsl_len2 a) HM3.out (HE3.out.codeFar List.mem_cons_self HM3.out) (HR2.out _)).mono ?_); rintro e w4 ⟨B3, d3, B4, d4, v4, rfl, hE, _, _, _⟩; simp only [List.length_replicate, List.length_nil] at hE; have hE5 := hE.res (.int .i64 0) (.slice B3 64 d3) (.slice B4 0 d4) (.int .i64 4) (.int .i64 0) (.int .i64 129); have x0 := hE5.c List.mem_cons_self 0; have y1 := hE5.c (List.mem_cons_of_mem _ List.mem_cons_self) 1; have z0 := hE5.c (List.mem_cons_of_mem _ (List.mem_cons_of_mem _ (List.mem_cons_of_mem _ List.mem_cons_self))) 0; have z2 := hE5.c (List.mem_cons_of_mem _ (List.mem_cons_of_mem _ (List.mem_cons_of_mem _ (List.mem_cons_of_mem _ List.mem_cons_self)))) 2; have HE4 := Aside0.mk hE5; clear hE hE5 HE3 HM3)
    | (go_at_call 10; (with_reducible refine (awakeE HE4.out).mono ?_); rintro e w6 ⟨rfl, hE⟩; have HE6 := Aside0.mk hE; clear hE))
  go_ret
  exact ⟨rfl, HE6.out.below⟩
theorem depths_calls (a : Int) (w : World) : Calls Try.prog 8 #[.int .i64 a] w (BPost w true) := by
  obtain ⟨k, hk, hb⟩ := dep_k a
  by_cases h0 : k ≤ 32
  · exact depths_lo a k hb (Nat.zero_le _) h0 w
  by_cases h1 : k ≤ 64
  · exact depths_mid a k hb (by omega) h1 w
  · exact depths_hi a k hb (by omega) hk w
end Go.Proofs.Ytbdamgopggeikaa.VmW
