/- The law VmCounts: a loop that counts down takes as much fuel as its turns. -/
import Derived.Test.YtbdamgopggeikaaVmSem
namespace Go.Proofs.Ytbdamgopggeikaa.VmW
open Go.RowKit Go.Proofs.YtbdamgopggeikaaW.PrintWords Go.Proofs.YtbdamgopggeikaaW.PrintMore Go.Proofs.YtbdamgopggeikaaW.PrintLast Go.Proofs.Ytbdamgopggeikaa.Pvm
set_option linter.unusedVariables false
set_option linter.unusedSimpArgs false
def cntL (k : Int) : List In := [⟨1, k⟩, ⟨1, 1⟩, ⟨6, 0⟩, ⟨3, 0⟩, ⟨21, 1⟩, ⟨25, 0⟩]
section
variable {M : Type} (K : MemK M) (k j : Int) (m : M)
theorem cnt0 : stepP K (cntL k) ⟨0, [], []⟩ m = (⟨1, [k], []⟩, m, 0, 0) := rfl
theorem cnt1 : stepP K (cntL k) ⟨1, [j], []⟩ m = (⟨2, [j, 1], []⟩, m, 0, 0) := rfl
theorem cnt2 : stepP K (cntL k) ⟨2, [j, 1], []⟩ m = (⟨3, [wrap64 (j - 1)], []⟩, m, 0, 0) := rfl
theorem cnt3 : stepP K (cntL k) ⟨3, [j], []⟩ m = (⟨4, [j, j], []⟩, m, 0, 0) := rfl
theorem cnt4 : stepP K (cntL k) ⟨4, [j, j], []⟩ m = (⟨if j = 0 then 5 else 1, [j], []⟩, m, 0, 0) := rfl
theorem cnt5 : stepP K (cntL k) ⟨5, [j], []⟩ m = (⟨5, [j], []⟩, m, 3, 0) := rfl
theorem run1 {code : List In} {s s' : St} {m m' : M} {n u : Nat} (h : stepP K code s m = (s', m', 0, 0)) : runP K code (n + 1) u s m = runP K code n (u + 1) s' m' := by
  conv => lhs; unfold runP
  rw [h]; rfl
theorem runX {code : List In} {s s' : St} {m m' : M} {n u : Nat} {x y : Int} (h : stepP K code s m = (s', m', x, y)) (hx : x ≠ 0) : runP K code (n + 1) u s m = (s', m', x, y, ((u + 1 : Nat) : Int)) := by
  conv => lhs; unfold runP
  rw [h]; exact if_neg hx
theorem cntLoop (i : Nat) (hi : i ≤ 1000) (r u : Nat) : runP K (cntL k) (4 * (i + 1) + r) u ⟨1, [((i + 1 : Nat) : Int)], []⟩ m = runP K (cntL k) r (u + 4 * (i + 1)) ⟨5, [0], []⟩ m := by
  induction i generalizing u with
  | zero =>
    rw [show 4 * (0 + 1) + r = ((((r + 1) + 1) + 1) + 1) by omega, run1 K (cnt1 K k _ m), run1 K (cnt2 K k _ m), show wrap64 (((0 + 1 : Nat) : Int) - 1) = 0 from by unfold wrap64; omega, run1 K (cnt3 K k _ m), run1 K (cnt4 K k _ m), if_pos rfl]
  | succ i ih =>
    have hw : wrap64 (((i + 1 + 1 : Nat) : Int) - 1) = ((i + 1 : Nat) : Int) := by unfold wrap64; omega
    rw [show 4 * (i + 1 + 1) + r = (((((4 * (i + 1) + r) + 1) + 1) + 1) + 1) by omega, run1 K (cnt1 K k _ m), run1 K (cnt2 K k _ m), hw, run1 K (cnt3 K k _ m), run1 K (cnt4 K k _ m), if_neg (by omega), ih (by omega)]
    congr 1
    omega
end
theorem cnt_all (n : Nat) (hn : n ≤ 511) (m : Mem) : runAll (cntL ((n + 1 : Nat) : Int)) ⟨0, [], []⟩ m ((1 + 4 * (n + 1) + 1 : Nat) : Int) = ⟨⟨5, [0], []⟩, m, 3, 0, ((1 + 4 * (n + 1) + 1 : Nat) : Int), 0⟩ ∧
    runAll (cntL ((n + 1 : Nat) : Int)) ⟨0, [], []⟩ m ((1 + 4 * (n + 1) : Nat) : Int) = ⟨⟨5, [0], []⟩, m, 1, 0, ((1 + 4 * (n + 1) : Nat) : Int), 0⟩ := by
  have hc : (chkP (cntL ((n + 1 : Nat) : Int))).1 = 0 := rfl
  have hm : mayP ⟨0, [], []⟩ (cntL ((n + 1 : Nat) : Int)).length := ⟨Int.le_refl 0, by show (0 : Int) ≤ 6; decide, Nat.zero_le _, Nat.zero_le _, fun x hx => by cases hx⟩
  have hi : ∀ x : Nat, x ≤ 1048576 → ¬ (((x : Nat) : Int) < 0 ∨ 1048576 < ((x : Nat) : Int) ∨ ¬ mayP ⟨0, [], []⟩ (cntL ((n + 1 : Nat) : Int)).length) := fun x hx h => by
    rcases h with h | h | h
    · omega
    · omega
    · exact h hm
  unfold runAll
  rw [if_neg (not_not_intro hc), if_neg (hi _ (by omega)), if_neg (hi _ (by omega)), Int.toNat_natCast, Int.toNat_natCast]
  have e1 : runP memK (cntL ((n + 1 : Nat) : Int)) (1 + 4 * (n + 1) + 1) 0 ⟨0, [], []⟩ m = (⟨5, [0], []⟩, m, 3, 0, ((1 + 4 * (n + 1) + 1 : Nat) : Int)) := by
    rw [show 1 + 4 * (n + 1) + 1 = (4 * (n + 1) + 1) + 1 by omega, run1 memK (cnt0 memK _ m), cntLoop memK _ m n (by omega) 1, runX memK (cnt5 memK _ _ m) (by decide)]
    simp; omega
  have e2 : runP memK (cntL ((n + 1 : Nat) : Int)) (1 + 4 * (n + 1)) 0 ⟨0, [], []⟩ m = (⟨5, [0], []⟩, m, 1, 0, ((1 + 4 * (n + 1) : Nat) : Int)) := by
    have h0 := cntLoop memK ((n + 1 : Nat) : Int) m n (by omega) 0 1
    rw [show 1 + 4 * (n + 1) = 4 * (n + 1) + 1 by omega]
    refine (run1 memK (cnt0 memK _ m)).trans (Eq.trans h0 ?_)
    show (_, _, _, _, _) = _
    simp; omega
  rw [e1, e2]
  exact ⟨rfl, rfl⟩
theorem cnt_n (a : Int) : ∃ n : Nat, n ≤ 511 ∧ Go.bits .and .i64 a 511 = (n : Int) := ⟨(Go.bits .and .i64 a 511).toNat, by rw [and511]; omega, by rw [and511]; omega⟩
theorem cnt_len (k : Int) : (cntL k).length ≤ 1024 := by show 6 ≤ 1024; decide
theorem cnt_len6 (k : Int) : (cntL k).length ≤ 6 := Nat.le_refl 6
theorem cnt_cells (k : Int) : (#[.int .i64 1, .int .i64 k, .int .i64 1, .int .i64 1, .int .i64 6, .int .i64 0, .int .i64 3, .int .i64 0, .int .i64 21, .int .i64 1, .int .i64 25, .int .i64 0] : Array Value) = (inCells (cntL k)).toArray := rfl
set_option maxHeartbeats 8000000 in
set_option maxRecDepth 100000 in
theorem counts_calls (a : Int) (w : World) : Calls Try.prog 7 #[.int .i64 a] w (BPost w true) := by
  have hu := Try.underlying25
  have hu2 := Try.underlying33
  have hu3 := Try.underlying51
  obtain ⟨n, hn, hb⟩ := cnt_n a
  have s1 : wrap64 (1 + (n : Int)) = ((n + 1 : Nat) : Int) := by unfold wrap64; omega
  have s2 : wrap64 (4 * ((n + 1 : Nat) : Int)) = 4 * ((n + 1 : Nat) : Int) := by unfold wrap64; omega
  have s3 : wrap64 (1 + 4 * ((n + 1 : Nat) : Int)) = ((1 + 4 * (n + 1) : Nat) : Int) := by unfold wrap64; omega
  have s4 : wrap64 (((1 + 4 * (n + 1) : Nat) : Int) + 1) = ((1 + 4 * (n + 1) + 1 : Nat) : Int) := by unfold wrap64; omega
  have s5 : wrap64 (((1 + 4 * (n + 1) + 1 : Nat) : Int) - 1) = ((1 + 4 * (n + 1) : Nat) : Int) := by unfold wrap64; omega
  have HA := Aside0.mk (fun m : Mem => cnt_all n hn m)
  have HN := Aside0.mk hn
  generalize (1 + 4 * (n + 1) + 1 : Nat) = q at *
  generalize (1 + 4 * (n + 1) : Nat) = p at *
  generalize (n + 1 : Nat) = k at *
  clear hn
  have T1 := Aside0.mk True.intro
  have HE0 := Aside0.mk ((LE.start w).boxed (inCells (cntL (k : Int))).toArray 51 _ rfl (by decide))
  rw [← cnt_cells] at HE0
  go_enter Try.func7, Try.ntmps7
  go_wp2_with (first
    | (go_at_call 11; have tok := T1.out; (with_reducible refine (fillE HE0.out ⟨#[]⟩ (by decide) (w.heap.size + 1) (by simp)).mono ?_); rintro e w1 ⟨v1, rfl, hE, hM, hb⟩; have HE1 := Aside0.mk hE; have HM1 := Aside0.mk hM; clear hE hM hb tok T1)
    | (go_at_call 13; (with_reducible refine (runZ HE1.out 6 rfl (HE1.out.code List.mem_cons_self (cnt_cells _) (cnt_len _)) (cnt_len6 _) HM1.out (HE1.out.codeFar List.mem_cons_self HM1.out) (HA.out _).1).mono ?_); rintro e w2 ⟨B1, d1, B2, d2, v2, rfl, hE, _, _, _⟩; have HE2 := Aside0.mk hE; clear hE HE1 HM1)
    | (go_at_call 11; (with_reducible refine (fillE (HE2.out.res _ _ _ _ _ _) ⟨#[]⟩ (by decide) (w2.heap.size + 1 + 1) (by simp)).mono ?_); rintro e w3 ⟨v3, rfl, hE, hM, hb⟩; have HE3 := Aside0.mk hE; have HM3 := Aside0.mk hM; clear hE hM hb HE2)
    | (go_at_call 13; (with_reducible refine (runZ HE3.out 6 rfl (HE3.out.code (List.mem_cons_of_mem _ (List.mem_cons_of_mem _ List.mem_cons_self)) (cnt_cells _) (cnt_len _)) (cnt_len6 _) HM3.out (HE3.out.codeFar (List.mem_cons_of_mem _ (List.mem_cons_of_mem _ List.mem_cons_self)) HM3.out) (HA.out _).2).mono ?_); rintro e w4 ⟨B3, d3, B4, d4, v4, rfl, hE, _, _, _⟩; have hE5 := hE.res (.int .i64 5) (.slice B3 1 d3) (.slice B4 0 d4) (.int .i64 1) (.int .i64 0) (.int .i64 (p : Int)); have x0 := hE5.c List.mem_cons_self 0; have x1 := hE5.c List.mem_cons_self 1; have x2 := hE5.c List.mem_cons_self 2; have y0 := hE5.c (List.mem_cons_of_mem _ (List.mem_cons_of_mem _ List.mem_cons_self)) 0; have y1 := hE5.c (List.mem_cons_of_mem _ (List.mem_cons_of_mem _ List.mem_cons_self)) 1; have y2 := hE5.c (List.mem_cons_of_mem _ (List.mem_cons_of_mem _ List.mem_cons_self)) 2; have z1 := hE5.c (List.mem_cons_of_mem _ (List.mem_cons_of_mem _ (List.mem_cons_of_mem _ List.mem_cons_self))) 1; have HE4 := Aside0.mk hE5; clear hE hE5 HE3 HM3)
    | (go_at_call 18; (with_reducible refine (oneE HE4.out (List.mem_cons_of_mem _ (List.mem_cons_of_mem _ List.mem_cons_self)) _ (by simp) rfl).mono ?_); rintro e w5 ⟨rfl, hE⟩; have HE5 := Aside0.mk hE; clear hE)
    | (go_at_call 10; (with_reducible refine (awakeE HE5.out).mono ?_); rintro e w6 ⟨rfl, hE⟩; have HE6 := Aside0.mk hE; clear hE))
  go_ret
  exact ⟨rfl, HE6.out.below⟩
end Go.Proofs.Ytbdamgopggeikaa.VmW
