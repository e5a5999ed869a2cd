/- The law PortFull. -/
import Derived.Test.YtclhddldbfdfdaaPoL1
namespace Go.Proofs.Ytclhddldbfdfdaa.PoW
open Go.RowKit Go.Proofs.YtclhddldbfdfdaaW.PrintWords Go.Proofs.YtclhddldbfdfdaaW.PrintMore Go.Proofs.YtclhddldbfdfdaaW.PrintLast Go.Proofs.Ytclhddldbfdfdaa.LabF Go.Proofs.Ytclhddldbfdfdaa.SetF
attribute [local go_sem] max2_int min2_int max_two min_two
set_option linter.unusedVariables false
set_option linter.unusedSimpArgs false
theorem and_mask (y m : Int) (k M : Nat) (hm : m = (M : Int) - 1) (hM : M = 2 ^ k) (hk : k ≤ 16) : Go.bits .and .i64 y m = y % (M : Int) := by
  have hp : M ≤ 65536 := by rw [hM]; exact Nat.pow_le_pow_right (by omega) hk
  have h1 : 0 < M := by rw [hM]; exact Nat.two_pow_pos k
  have hd : M ∣ 18446744073709551616 := by
    rw [hM, show (18446744073709551616 : Nat) = 2 ^ 64 from rfl]
    exact Nat.pow_dvd_pow 2 (by omega)
  have hd2 : (M : Int) ∣ 18446744073709551616 := by
    obtain ⟨q, hq⟩ := hd
    exact ⟨(q : Int), by rw [← Int.natCast_mul, ← hq]; rfl⟩
  have e2 : (BitVec.ofInt 64 m).toNat = M - 1 := by
    rw [BitVec.toNat_ofInt]; omega
  have e1 : ((BitVec.ofInt 64 y).toNat : Int) = y % 18446744073709551616 := by
    rw [BitVec.toNat_ofInt]
    omega
  show IntKind.i64.wrap ((BitVec.ofInt 64 y &&& BitVec.ofInt 64 m).toNat : Int) = _
  rw [BitVec.toNat_and, e2, hM, Nat.and_two_pow_sub_one_eq_mod, ← hM, Int.natCast_emod, e1, Int.emod_emod_of_dvd y hd2]
  have g0 := Int.emod_nonneg y (show (M : Int) ≠ 0 by omega)
  have g1 := Int.emod_lt_of_pos y (show (0 : Int) < M by omega)
  rw [IntKind.wrap_i64]
  omega
theorem and127 (y : Int) : Go.bits .and .i64 y 127 = y % 128 := and_mask y 127 7 128 rfl rfl (by decide)
def mM : Msg := (0, ⟨#[109]⟩)
def fullL (room k : Nat) : List (List Msg) := [[], List.replicate (min k room) mM]
theorem full_step (room k : Nat) : sendL (fullL room k) room 0 [2 * 0 + 1] [] [2 * 0 + 1] 1 ⟨#[109]⟩ true = ([1], 0, fullL room (k + 1)) := by
  rw [send_subj _ _ _ _ _ _ (by simp [fullL]) (by simp [fullL]) (by simp [fullL]) (by decide), if_pos (.inl rfl), if_neg (by decide)]
  have h : pushL (fullL room k) room (1 : Int).toNat (0, ⟨#[109]⟩) = fullL room (k + 1) := by
    show [[], if (List.replicate (min k room) mM).length < room then List.replicate (min k room) mM ++ [mM] else List.replicate (min k room) mM] = _
    rw [List.length_replicate]
    unfold fullL
    by_cases h : min k room < room
    · rw [if_pos h, ← List.replicate_succ', show min (k + 1) room = min k room + 1 by omega]
    · rw [if_neg h, show min (k + 1) room = min k room by omega]
  rw [h]
  rfl
theorem full_len1 (room k : Nat) : lenL (fullL room k) 1 = ((min k room : Nat) : Int) := by
  show (((List.replicate (min k room) mM).length : Nat) : Int) = _
  rw [List.length_replicate]
theorem full_len0 (room k : Nat) : lenL (fullL room k) 0 = 0 := rfl
set_option maxHeartbeats 4000000 in
set_option maxRecDepth 100000 in
theorem full_not (room many : Int) (h : ¬ (1 ≤ room ∧ room ≤ 64)) (w : World) : Calls Try.prog 5 #[.int .i64 room, .int .i64 many] w fun e w' => e = .returned (.bool true) ∧ Below w.heap.size w w' := by
  have HN := Aside0.mk (pnew_not 2 room (by omega) w)
  have HA := Aside0.mk (awake_calls w)
  by_cases h0 : room < 1
  · have d0 : decide (room < 1) = true := decide_eq_true h0
    clear h
    go_enter Try.func5, Try.ntmps5
    go_wp2_with (first
      | (go_at_call 8; (with_reducible refine HN.out.mono ?_); rintro e w1 ⟨rfl, rfl⟩)
      | (go_at_call 12; (with_reducible refine HA.out.mono ?_); rintro e w3 ⟨rfl, hb⟩; have HB := Aside0.mk hb; clear hb))
    go_ret
    exact ⟨rfl, HB.out⟩
  · have d0 : decide (room < 1) = false := decide_eq_false h0
    have d1 : decide (room > 64) = true := decide_eq_true (by omega)
    have d2 : decide (64 < room) = true := decide_eq_true (by omega)
    clear h
    go_enter Try.func5, Try.ntmps5
    go_wp2_with (first
      | (go_at_call 8; (with_reducible refine HN.out.mono ?_); rintro e w1 ⟨rfl, rfl⟩)
      | (go_at_call 12; (with_reducible refine HA.out.mono ?_); rintro e w3 ⟨rfl, hb⟩; have HB := Aside0.mk hb; clear hb))
    go_ret
    exact ⟨rfl, HB.out⟩
set_option maxHeartbeats 4000000 in
set_option maxRecDepth 100000 in
theorem full_calls (room : Nat) (many : Int) (h0 : 1 ≤ room) (h1 : room ≤ 64) (w : World) : Calls Try.prog 5 #[.int .i64 (room : Int), .int .i64 many] w fun e w' => e = .returned (.bool true) ∧ Below w.heap.size w w' := by
  have HN := Aside0.mk (PS.new w w (Below.refl _ _) 2 room (by decide) (by decide) h0 h1)
  have HSb := Aside0.mk (fun w => subject_calls 0 (by decide) (by decide) w)
  go_enter Try.func5, Try.ntmps5
  go_wp2_with (go_at_call 8; refine HN.out.mono ?_; rintro e w1 ⟨gp, rfl, hp⟩; have HP := Aside0.mk (show PS w gp room (fullL room 0) [] [] w1 from hp); clear hp)
  rw [and127]
  obtain ⟨n, hn, hn2⟩ : ∃ n : Nat, many % 128 = (n : Int) ∧ n ≤ 127 := ⟨(many % 128).toNat, by omega, by omega⟩
  rw [hn]
  clear hn HN
  go_loopw [8] (fun t8 wr => ∃ k : Nat, k ≤ n ∧ t8 = .int .i64 (k : Int) ∧ Aside0 (PS w gp room (fullL room k) [] [] wr)) (fun i _ => n - (intOf i).toNat)
  case atStart => exact ⟨0, Nat.zero_le _, rfl, HP⟩
  case round =>
    clear HP
    obtain ⟨k, hk, rfl, HP⟩ := hrel
    by_cases hlt : k < n
    · have i1 : (k : Int) < (n : Int) := by omega
      go_wp2_with (first
        | (go_at_call 10; (with_reducible refine (HSb.out _).mono ?_); rintro e w2 ⟨a, b, rfl, h1, h2, hb⟩; have nP := Aside0.mk (HP.out.step hb); have HA := Aside0.mk h1; have HB := Aside0.mk h2; clear HP h1 h2 hb; have HP := nP; clear nP)
        | (go_at_call 9; (with_reducible refine (HP.out.sendS HA.out HB.out 1 ⟨#[109]⟩ true (full_step room k) rfl).mono ?_); rintro e w3 ⟨A3, c3, rfl, hp⟩; clear HP HA HB; have HP := Aside0.mk hp; clear hp)
        | (go_at_call 16; (with_reducible refine (HP.out.same1 (x := 1) (n := 1) (k := w3.heap.size) List.mem_cons_self (by simp) (by simp) (b := true) (by decide) rfl).mono ?_); rintro e w7 ⟨rfl, hp⟩; have HQ := Aside0.mk (hp.drop (rs' := []) (bs' := []) (by simp) (by simp)); clear HP hp))
      exact ⟨⟨k + 1, by omega, by go_num, HQ⟩, by simp [intOf]; omega⟩
    · obtain rfl : k = n := by omega
      have i1 : ¬ ((k : Int) < (k : Int)) := by omega
      have HL1 := Aside0.mk (full_len1 room k)
      have HL0 := Aside0.mk (full_len0 room k)
      have m1 : (if (k : Int) < (room : Int) then (k : Int) else (room : Int)) = ((min k room : Nat) : Int) := by split <;> omega
      have m2 : (if (room : Int) < (k : Int) then (room : Int) else (k : Int)) = ((min k room : Nat) : Int) := by split <;> omega
      have m3 : (min (k : Int) (room : Int)) = ((min k room : Nat) : Int) := by omega
      generalize min k room = q at *
      go_wp2_with (first
        | (go_at_call 13; (with_reducible refine (HP.out.len 1 HL1.out).mono ?_); rintro e w3 ⟨rfl, rfl⟩)
        | (go_at_call 13; (with_reducible refine (HP.out.len 0 HL0.out).mono ?_); rintro e w3 ⟨rfl, rfl⟩)
        | (go_at_call 12; (with_reducible refine (awake_calls _).mono ?_); rintro e w4 ⟨rfl, hb⟩; have HB := Aside0.mk (below_step HP.out.below hb); clear hb))
      all_goals go_ret
      all_goals exact ⟨rfl, HB.out⟩
end Go.Proofs.Ytclhddldbfdfdaa.PoW
