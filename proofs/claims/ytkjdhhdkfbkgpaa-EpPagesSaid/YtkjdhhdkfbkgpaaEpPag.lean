/- EpPages. -/
import Derived.Test.YtkjdhhdkfbkgpaaEpPag0
import Derived.BigQuiet
import Derived.Deep.QuietTactic
namespace Go.Proofs.Ytkjdhhdkfbkgpaa.VmW
open Go.RowKit Go.Proofs.YtkjdhhdkfbkgpaaW.PrintWords Go.Proofs.YtkjdhhdkfbkgpaaW.PrintMore Go.Proofs.YtkjdhhdkfbkgpaaW.PrintLast Go.Proofs.Ytkjdhhdkfbkgpaa.Pvm
set_option linter.unusedVariables false
set_option linter.unusedSimpArgs false
abbrev haltC : List In := [⟨25, 0⟩]
theorem new_long (W : World) (A : Option Addr) (n c : Nat) (code : List In) (hn : code.length = n) (hC : Kd.C kIn W A code.length code) (hcap : code.length ≤ c) (img : ByteArray) (hk : (chkP code).1 = 0) (hi : 4096 < img.size) : Calls Try.prog 8 #[.slice A n c, .string img] W fun e W' => e = .returned (.tuple #[.pointer none, .int .i64 4]) ∧ Below W.heap.size W W' := by
  subst hn
  refine (new_calls W A c code hC hcap img).mono ?_
  rintro e w' ⟨h, hb⟩
  rcases h with ⟨h, _⟩ | ⟨_, h, he⟩ | ⟨_, h, _⟩
  · exact absurd hk h
  · exact ⟨he, hb⟩
  · omega
set_option maxHeartbeats 4000000 in
set_option maxRecDepth 100000 in
theorem epPages_long (img : ByteArray) (place : Int) (s : ByteArray) (W : World) (hi : 4096 < img.size) : Calls Try.prog 3 #[.string img, .int .i64 place, .string s] W fun e W' => e = .returned (.bool true) ∧ Below W.heap.size W W' := by
  have HN := Aside0.mk (new_long (W.alloc (.cells #[.int .i64 25, .int .i64 0] 27)) (some ⟨W.heap.size, 0, none⟩) 1 1 haltC rfl (code_lit W haltC _ rfl (by decide)) (by decide) img (by decide) hi)
  have HB := Aside0.mk (below_alloc (Below.refl W.heap.size W) (.cells #[.int .i64 25, .int .i64 0] 27))
  have t0 : decide ((img.size : Int) > 4096) = true := decide_eq_true (by omega)
  have t1 : decide (4096 < (img.size : Int)) = true := decide_eq_true (by omega)
  have t2 : decide (4096 < img.size) = true := decide_eq_true hi
  clear hi
  go_enter Try.func3, Try.ntmps3
  go_wp2_with (first
    | (go_at_call 8; (with_reducible refine HN.out.mono ?_); rintro e w1 ⟨rfl, hb⟩; have HB1 := Aside0.mk (below_step HB.out hb); clear hb)
    | (go_at_call 9; (with_reducible refine (awake_calls _).mono ?_); rintro e w2 ⟨rfl, hb⟩; have HB2 := Aside0.mk (below_step HB1.out hb); clear hb))
  go_ret
  exact ⟨rfl, HB2.out⟩
def memT (img : ByteArray) : ByteArray := strOfNums ((List.range 4096).map (imgAt img))
theorem textAll (x : EpS) (hb : x.b.length = 4096) : textP x 0 4096 = (strOfNums x.b, true) := by
  unfold textP
  rw [if_pos (by decide)]
  show (strOfNums ((x.b.drop 0).take 4096), true) = _
  rw [List.drop_zero, List.take_of_length_le (by omega)]
theorem pages_none (img : ByteArray) (code : List In) : pagesP (newX code img) = [] := by
  unfold pagesP newX
  rfl
set_option maxHeartbeats 4000000 in
set_option maxRecDepth 100000 in
theorem epPages_no (img : ByteArray) (place : Int) (s : ByteArray) (W : World) (hi : img.size ≤ 4096) (a : Nat) (ea : Go.bits .and .i64 place 4095 = (a : Int)) (ha : a < 4096) (hs : s.size < 140737488355328) (hn : 4096 - a < s.size) : Calls Try.prog 3 #[.string img, .int .i64 place, .string s] W fun e W' => e = .returned (.bool true) ∧ Below W.heap.size W W' := by
  have HN := Aside0.mk (new_ok (W.alloc (.cells #[.int .i64 25, .int .i64 0] 27)) (some ⟨W.heap.size, 0, none⟩) 1 1 haltC rfl (code_lit W haltC _ rfl (by decide)) (by decide) img (by decide) hi)
  have H0 := Aside0.mk ((EL.start W).step (below_alloc (Below.refl _ _) (.cells #[.int .i64 25, .int .i64 0] 27)))
  have E1 := Aside0.mk (show textP (newX haltC img) 0 4096 = (memT img, true) from textAll _ (by simp [newX]))
  have E2 := Aside0.mk (show layP (newX haltC img) (a : Int) s = (newX haltC img, false) from by unfold layP; rw [if_neg (fun h => by have := h.2.2.2; omega)])
  have HS := Aside0.mk hs
  have t0 : decide ((s.size : Int) ≤ 4096 - (a : Int)) = false := decide_eq_false (by omega)
  clear hi hs
  go_enter Try.func3, Try.ntmps3
  go_wp2_with (first
    | (go_at_call 8; (with_reducible refine HN.out.mono ?_); rintro e w1 ⟨g, d, K, rfl, ha, h1, h2, hb⟩; have HL1 := Aside0.mk (EL.add H0.out hb ha h1 h2); clear ha h1 h2 hb)
    | (go_at_call 11; (with_reducible refine (layE HL2.out HS.out E2.out).mono ?_); rintro e w3 ⟨rfl, d3, K3, hl⟩; have HL3 := Aside0.mk hl; clear hl)
    | (go_at_call 10; (with_reducible refine (textE HL3.out E1.out).mono ?_); rintro e w4 ⟨rfl, hb⟩; have HL4 := Aside0.mk (HL3.out.step hb); clear hb)
    | (go_at_call 10; (with_reducible refine (textE HL1.out E1.out).mono ?_); rintro e w2 ⟨rfl, hb⟩; have HL2 := Aside0.mk (HL1.out.step hb); clear hb)
    | (go_at_call 12; (with_reducible refine (pagesE HL4.out (l := []) (m := 0) (pages_none img haltC) rfl).mono ?_); rintro e w5 ⟨A5, c5, rfl, ho, hb⟩; have HL5 := Aside0.mk (HL4.out.step hb); clear ho hb)
    | (go_at_call 9; (with_reducible refine (awake_calls _).mono ?_); rintro e w6 ⟨rfl, hb⟩; have HL6 := Aside0.mk (HL5.out.step hb); clear hb))
  go_ret
  exact ⟨rfl, HL6.out.below⟩
theorem rd_range' {m k : Nat} (h : k < m) (F : Nat) : rd ((List.range' F m).map (fun i : Nat => (i : Int))) (k : Int) = ((F + k : Nat) : Int) := by
  unfold rd
  rw [Int.toNat_natCast, List.getD_eq_getElem?_getD, List.getElem?_map]
  rw [List.getElem?_range' h]; simp
theorem tdiv_nat (n : Nat) : Int.tdiv (n : Int) 256 = ((n / 256 : Nat) : Int) := rfl
theorem layB_len (b : List Int) (a : Nat) (s : ByteArray) : ∀ i, (layB b a s i).length = b.length
  | 0 => rfl
  | i + 1 => by unfold layB; rw [List.length_set, layB_len b a s i]
set_option maxHeartbeats 4000000 in
set_option maxRecDepth 100000 in
theorem epPages_zero (img : ByteArray) (place : Int) (s : ByteArray) (W : World) (hi : img.size ≤ 4096) (a : Nat) (ea : Go.bits .and .i64 place 4095 = (a : Int)) (ha : a < 4096) (hs : s.size < 140737488355328) (hn : s.size ≤ 4096 - a) (hz : s.size = 0) : Calls Try.prog 3 #[.string img, .int .i64 place, .string s] W fun e W' => e = .returned (.bool true) ∧ Below W.heap.size W W' := by
  have HN := Aside0.mk (new_ok (W.alloc (.cells #[.int .i64 25, .int .i64 0] 27)) (some ⟨W.heap.size, 0, none⟩) 1 1 haltC rfl (code_lit W haltC _ rfl (by decide)) (by decide) img (by decide) hi)
  have H0 := Aside0.mk ((EL.start W).step (below_alloc (Below.refl _ _) (.cells #[.int .i64 25, .int .i64 0] 27)))
  have hbl : (newX haltC img).b.length = 4096 := by simp [newX]
  have hll := layB_len (newX haltC img).b a s s.size
  obtain ⟨T, hT⟩ : ∃ T, strOfNums (newX haltC img).b = T := ⟨_, rfl⟩
  obtain ⟨T1, hT1⟩ : ∃ T1, strOfNums (layB (newX haltC img).b a s s.size) = T1 := ⟨_, rfl⟩
  have hts := text_laid (newX haltC img).b a s (by omega)
  rw [hT, hT1] at hts
  have hTz : (T.size : Int) = 4096 := by rw [← hT, strOfNums_size, hbl]; rfl
  have E1 := Aside0.mk (show textP (newX haltC img) 0 4096 = (T, true) from by rw [← hT]; exact textAll _ hbl)
  have E2 := Aside0.mk (show layP (newX haltC img) (a : Int) s = (laidX (newX haltC img) a s s.size, true) from by unfold layP; rw [if_pos (by unfold inP; omega)]; rfl)
  have E3 := Aside0.mk (show textP (laidX (newX haltC img) a s s.size) 0 4096 = (T1, true) from by rw [← hT1]; exact textAll _ (by rw [show (laidX (newX haltC img) a s s.size).b = layB (newX haltC img).b a s s.size from rfl]; omega))
  have tq : (!T1.toList == (T.extract 0 a ++ s ++ T.extract (a + s.size) T.size).toList) = false := by rw [← hts]; simp
  have HS := Aside0.mk hs
  have t0 : decide ((s.size : Int) ≤ 4096 - (a : Int)) = true := decide_eq_true (by omega)
  have E4 := Aside0.mk (show pagesP (laidX (newX haltC img) a s s.size) = [] from by rw [hz]; exact pages_none img haltC)
  have tz : ((s.size : Int) == 0) = true := by simp [hz]
  clear hz hi hs hT hT1 hts hbl hll
  go_enter Try.func3, Try.ntmps3
  go_upto_region 12 with (first
    | (go_at_call 8; (with_reducible refine HN.out.mono ?_); rintro e w1 ⟨g, d, K, rfl, ha, h1, h2, hb⟩; have HL1 := Aside0.mk (EL.add H0.out hb ha h1 h2); clear ha h1 h2 hb)
    | (go_at_call 11; (with_reducible refine (layE HL2.out HS.out E2.out).mono ?_); rintro e w3 ⟨rfl, d3, K3, hl⟩; have HL3 := Aside0.mk hl; clear hl)
    | (go_at_call 10; (with_reducible refine (textE HL3.out E3.out).mono ?_); rintro e w4 ⟨rfl, hb⟩; have HL4 := Aside0.mk (HL3.out.step hb); clear hb)
    | (go_at_call 10; (with_reducible refine (textE HL1.out E1.out).mono ?_); rintro e w2 ⟨rfl, hb⟩; have HL2 := Aside0.mk (HL1.out.step hb); clear hb))
  go_quiet (fail)
  have HL4' := Aside0.mk (HL4.out.step (pw_below_drewN (Below.refl _ _) nq))
  generalize w4.drewN nq = w4 at *
  go_wp2_with (first
    | (go_at_call 12; (with_reducible refine (pagesE HL4'.out (m := 0) E4.out rfl).mono ?_); rintro e w5 ⟨A5, c5, rfl, ho, hb⟩; have HL5 := Aside0.mk (HL4'.out.step hb); clear ho hb)
    | (go_at_call 9; (with_reducible refine (awake_calls _).mono ?_); rintro e w6 ⟨rfl, hb⟩; have HL6 := Aside0.mk (HL5.out.step hb); clear hb))
  go_ret
  exact ⟨rfl, HL6.out.below⟩
set_option maxHeartbeats 4000000 in
set_option maxRecDepth 100000 in
theorem epPages_some (img : ByteArray) (place : Int) (s : ByteArray) (W : World) (hi : img.size ≤ 4096) (a : Nat) (ea : Go.bits .and .i64 place 4095 = (a : Int)) (ha : a < 4096) (hs : s.size < 140737488355328) (hn : s.size ≤ 4096 - a) (hz : 0 < s.size) : Calls Try.prog 3 #[.string img, .int .i64 place, .string s] W fun e W' => e = .returned (.bool true) ∧ Below W.heap.size W W' := by
  have HN := Aside0.mk (new_ok (W.alloc (.cells #[.int .i64 25, .int .i64 0] 27)) (some ⟨W.heap.size, 0, none⟩) 1 1 haltC rfl (code_lit W haltC _ rfl (by decide)) (by decide) img (by decide) hi)
  have H0 := Aside0.mk ((EL.start W).step (below_alloc (Below.refl _ _) (.cells #[.int .i64 25, .int .i64 0] 27)))
  have hbl : (newX haltC img).b.length = 4096 := by simp [newX]
  have hll := layB_len (newX haltC img).b a s s.size
  obtain ⟨T, hT⟩ : ∃ T, strOfNums (newX haltC img).b = T := ⟨_, rfl⟩
  obtain ⟨T1, hT1⟩ : ∃ T1, strOfNums (layB (newX haltC img).b a s s.size) = T1 := ⟨_, rfl⟩
  have hts := text_laid (newX haltC img).b a s (by omega)
  rw [hT, hT1] at hts
  have hTz : (T.size : Int) = 4096 := by rw [← hT, strOfNums_size, hbl]; rfl
  have E1 := Aside0.mk (show textP (newX haltC img) 0 4096 = (T, true) from by rw [← hT]; exact textAll _ hbl)
  have E2 := Aside0.mk (show layP (newX haltC img) (a : Int) s = (laidX (newX haltC img) a s s.size, true) from by unfold layP; rw [if_pos (by unfold inP; omega)]; rfl)
  have E3 := Aside0.mk (show textP (laidX (newX haltC img) a s s.size) 0 4096 = (T1, true) from by rw [← hT1]; exact textAll _ (by rw [show (laidX (newX haltC img) a s s.size).b = layB (newX haltC img).b a s s.size from rfl]; omega))
  have tq : (!T1.toList == (T.extract 0 a ++ s ++ T.extract (a + s.size) T.size).toList) = false := by rw [← hts]; simp
  have HS := Aside0.mk hs
  have t0 : decide ((s.size : Int) ≤ 4096 - (a : Int)) = true := decide_eq_true (by omega)
  obtain ⟨F, hF⟩ : ∃ F, a / 256 = F := ⟨_, rfl⟩
  obtain ⟨E, hE⟩ : ∃ E, (a + s.size - 1) / 256 = E := ⟨_, rfl⟩
  have hFE : F ≤ E := by omega
  have hEl : E < 16 := by omega
  have E4 := Aside0.mk (show pagesP (laidX (newX haltC img) a s s.size) = (List.range' F (E + 1 - F)).map (fun i : Nat => (i : Int)) from by
    have := pagesL_laid (a := a) (n := s.size) hz (by omega)
    rw [hF, hE] at this
    exact this)
  have tz : ((s.size : Int) == 0) = false := by rw [beq_eq_false_iff_ne]; omega
  obtain ⟨m, hm⟩ : ∃ m, E + 1 - F = m := ⟨_, rfl⟩
  rw [hm] at E4
  have hm0 : 0 < m := by omega
  have hm1 : m ≤ 16 := by omega
  have HMM := Aside0.mk hm
  have e2 : Int.tdiv (a : Int) 256 = (F : Int) := by rw [← hF]; rfl
  have e5 : Int.tdiv ((a : Int) + (s.size : Int) - 1) 256 = (E : Int) := by
    rw [show (a : Int) + (s.size : Int) - 1 = ((a + s.size - 1 : Nat) : Int) by omega, tdiv_nat, hE]
  have e6 : ((m : Int) == (E : Int) - (F : Int) + 1) = true := by simp; omega
  have e7 : (m : Int) = (E : Int) - (F : Int) + 1 := by omega
  clear hz hi hs hT hE hF hm hT1 hts hbl hll
  go_enter Try.func3, Try.ntmps3
  go_upto_region 12 with (first
    | (go_at_call 8; (with_reducible refine HN.out.mono ?_); rintro e w1 ⟨g, d, K, rfl, ha, h1, h2, hb⟩; have HL1 := Aside0.mk (EL.add H0.out hb ha h1 h2); clear ha h1 h2 hb)
    | (go_at_call 11; (with_reducible refine (layE HL2.out HS.out E2.out).mono ?_); rintro e w3 ⟨rfl, d3, K3, hl⟩; have HL3 := Aside0.mk hl; clear hl)
    | (go_at_call 10; (with_reducible refine (textE HL3.out E3.out).mono ?_); rintro e w4 ⟨rfl, hb⟩; have HL4 := Aside0.mk (HL3.out.step hb); clear hb)
    | (go_at_call 10; (with_reducible refine (textE HL1.out E1.out).mono ?_); rintro e w2 ⟨rfl, hb⟩; have HL2 := Aside0.mk (HL1.out.step hb); clear hb))
  go_quiet (fail)
  have HL4' := Aside0.mk (HL4.out.step (pw_below_drewN (Below.refl _ _) nq))
  generalize w4.drewN nq = w4 at *
  clear tq
  have e8 := Aside0.mk e7
  clear e7
  go_upto_region 17 with (first
    | (go_at_call 12; (with_reducible refine (pagesE HL4'.out (m := m) E4.out (by simp)).mono ?_); rintro e w5 ⟨A5, c5, rfl, ho, hb⟩; have HL5 := Aside0.mk (HL4'.out.step hb); have HO := Aside0.mk ho; clear ho hb))
  go_upto_region 18 with (fail)
  obtain ⟨b5, re⟩ : ∃ b5, A5 = some ⟨b5, 0, none⟩ := row_some HO.out (by simpa using hm0)
  subst re
  have hcap : m ≤ c5 := by have := own_cap HO.out; simpa using this
  have c0 : w5.cell? ⟨b5, 0, none⟩ = some (.int .i64 (F : Int)) := by
    have h0 := (own_at HO.out (0 : Int) (by omega) (by simp; omega)).1
    rw [show (0 : Int) = ((0 : Nat) : Int) from rfl, rd_range' hm0 F] at h0
    exact h0
  have c1 : w5.cell? ⟨b5, m - 1, none⟩ = some (.int .i64 (E : Int)) := by
    have h0 := (own_at HO.out ((m - 1 : Nat) : Int) (by omega) (by simp; omega)).1
    rw [rd_range' (k := m - 1) (by omega) F, Int.toNat_natCast, show F + (m - 1) = E by have := HMM.out; omega] at h0
    exact h0
  go_wp2_with (go_at_call 9; (with_reducible refine (awake_calls _).mono ?_); rintro e w6 ⟨rfl, hb⟩; have HL6 := Aside0.mk (HL5.out.step hb); clear hb)
  go_ret
  exact ⟨rfl, HL6.out.below⟩
theorem epPages_calls (img : ByteArray) (place : Int) (s : ByteArray) (W : World) (hs : s.size < 140737488355328) : Calls Try.prog 3 #[.string img, .int .i64 place, .string s] W fun e W' => e = .returned (.bool true) ∧ Below W.heap.size W W' := by
  by_cases hi : 4096 < img.size
  · exact epPages_long img place s W hi
  have h0 := Int.emod_nonneg place (show (4096 : Int) ≠ 0 by omega)
  have h1 := Int.emod_lt_of_pos place (show (0 : Int) < 4096 by omega)
  obtain ⟨a, ea⟩ := Int.eq_ofNat_of_zero_le h0
  have em : Go.bits .and .i64 place 4095 = (a : Int) := by rw [and_mask place 4095 12 4096 rfl rfl (by decide)]; exact ea
  by_cases hn : s.size ≤ 4096 - a
  · by_cases hz : s.size = 0
    · exact epPages_zero img place s W (by omega) a em (by omega) hs hn hz
    · exact epPages_some img place s W (by omega) a em (by omega) hs hn (by omega)
  · exact epPages_no img place s W (by omega) a em (by omega) hs (by omega)
end Go.Proofs.Ytkjdhhdkfbkgpaa.VmW
