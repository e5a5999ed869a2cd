/- row.Of's second closure by hand, and what the number's reader tells. -/
import Derived.Test.YthphoifaingbkaaRowOf1
import Derived.Lib.Strings
namespace Go.Proofs.Ythphoifaingbkaa.RowOf
open Go.RowKit Go.Proofs.YthphoifaingbkaaW.PrintWords Go.Proofs.YthphoifaingbkaaW.PrintLast Go.Proofs.YthphoifaingbkaaW.PrintMore
set_option linter.unusedVariables false
set_option linter.unusedSimpArgs false

theorem wraps_i64 (n : Int) (h₀ : 0 ≤ n) (h₁ : n < 2 ^ 63) : IntKind.i64.wrap n = n := by rw [IntKind.wrap_i64]; omega
theorem nxt_val (n c : Int) (i : Nat) (hi : i ≤ 4) (h0 : 0 ≤ n) (h1 : n < 2 ^ (7 * i)) (hc0 : 0 ≤ c) (hc : c ≤ 255) : nxt n c i = n + (c % 128) * 2 ^ (7 * i) := by
  obtain ⟨a, rfl⟩ := Int.eq_ofNat_of_zero_le h0
  obtain ⟨m, hm⟩ := Int.eq_ofNat_of_zero_le (show 0 ≤ c % 128 by omega)
  have hp : (2 : Nat) ^ (7 * i) ≤ 2 ^ 28 := Nat.pow_le_pow_right (by decide) (by omega)
  have hp2 : (2 : Nat) ^ 28 = 268435456 := by decide
  have ha : a < 2 ^ (7 * i) := by exact_mod_cast h1
  have hm2 : m < 128 := by omega
  have hmul : m * 2 ^ (7 * i) ≤ 127 * 2 ^ 28 := Nat.mul_le_mul (by omega) hp
  have h63 : (2 : Nat) ^ 63 = 9223372036854775808 := by decide
  unfold nxt
  rw [show (127 : Int) = 2 ^ 7 - 1 by decide, bits_mask .u8 8 (by decide) wraps_u8 7 (by decide) c hc0 (by omega), show (2 : Int) ^ 7 = 128 by decide, hm]
  rw [show wrap64 (m : Int) = m from by unfold wrap64; omega]
  rw [show ((m : Int) * 2 ^ (7 * i)) = ((m * 2 ^ (7 * i) : Nat) : Int) by simp]
  rw [show wrap64 ((m * 2 ^ (7 * i) : Nat) : Int) = ((m * 2 ^ (7 * i) : Nat) : Int) from by unfold wrap64; omega]
  rw [(bits_nat .i64 63 (by decide) wraps_i64 a (m * 2 ^ (7 * i)) (by omega) (by omega)).2, Nat.or_comm, Nat.mul_comm, ← Nat.two_pow_add_eq_or_of_lt ha]
  simp; omega
/-- The number that is read is none below 0, and the reader stays inside. -/
theorem cntGo_range (s : ByteArray) : ∀ (d a i : Nat) (n : Int), i ≤ 5 → 0 ≤ n → n < 2 ^ (7 * i) → a ≤ s.size → 0 ≤ (cntGo s d a i n).1 ∧ (cntGo s d a i n).2.2 ≤ s.size := by
  intro d
  induction d with
  | zero => intro a i n _ h0 _ ha; exact ⟨h0, ha⟩
  | succ d ih =>
    intro a i n h5 h0 h1 ha
    unfold cntGo
    by_cases he : a = s.size ∨ i = 5
    · rw [if_pos he]; exact ⟨h0, ha⟩
    · rw [if_neg he]
      have hi : i ≤ 4 := by omega
      · have hb := bt_range s (a : Int)
        have hv := nxt_val n (bt s a) i hi h0 h1 hb.1 hb.2
        have hpos : (0 : Int) < 2 ^ (7 * i) := Int.pow_pos (by decide)
        have hge : 0 ≤ (bt s a % 128) * 2 ^ (7 * i) := Int.mul_nonneg (by omega) (by omega)
        by_cases hc : bt s a < 128
        · rw [if_pos hc]; exact ⟨by show 0 ≤ nxt n (bt s a) i; rw [hv]; omega, by show a + 1 ≤ s.size; omega⟩
        · rw [if_neg hc]
          refine ih (a + 1) (i + 1) _ (by omega) (by rw [hv]; omega) ?_ (by omega)
          rw [hv, show 7 * (i + 1) = 7 * i + 7 by omega, Int.pow_add]
          have : (bt s a % 128) * 2 ^ (7 * i) ≤ 127 * 2 ^ (7 * i) := Int.mul_le_mul_of_nonneg_right (by omega) (by omega)
          omega
theorem cnt_range (b : Bool) (s : ByteArray) (a : Nat) (ha : a ≤ s.size) : 0 ≤ (cnt b s a).1 ∧ (cnt b s a).2.2 ≤ s.size := by
  unfold cnt cntAt
  cases b with
  | false => exact ⟨by simp, by simpa using ha⟩
  | true => exact cntGo_range s 6 a 0 0 (by omega) (by omega) (by decide) ha
/-- What read answers, whether it went well, where the reader stands then. -/
def rdF (b : Bool) (s : ByteArray) (a : Nat) : ByteArray × Bool × Nat :=
  if (cnt b s a).2.1 = true ∧ (cnt b s a).1 ≤ (s.size : Int) - ((cnt b s a).2.2 : Int) then (s.extract (cnt b s a).2.2 ((cnt b s a).2.2 + (cnt b s a).1.toNat), true, (cnt b s a).2.2 + (cnt b s a).1.toNat)
  else (⟨#[]⟩, false, (cnt b s a).2.2)
theorem rdF_range (b : Bool) (s : ByteArray) (a : Nat) (ha : a ≤ s.size) : (rdF b s a).2.2 ≤ s.size := by
  have h := cnt_range b s a ha
  unfold rdF
  split
  · simp only; omega
  · exact h.2

set_option maxHeartbeats 4000000 in
set_option maxRecDepth 100000 in
theorem read_calls (gC gO gA gS : Nat) (hOA : gO ≠ gA) (hOS : gO ≠ gS) (hAS : gA ≠ gS) (hCO : gC ≠ gO) (hCA : gC ≠ gA) (s : ByteArray) (hs : s.size ≤ 9223372036854775807) (b : Bool) (a : Nat) (ha : a ≤ s.size) (w : World)
    (hC : Var w gC 54 (.func (.func 31) #[] #[.pointer (some ⟨gO, 0, none⟩), .pointer (some ⟨gA, 0, none⟩), .pointer (some ⟨gS, 0, none⟩)]))
    (hO : Var w gO 4 (.bool b)) (hA : Var w gA 3 (.int .i64 (a : Int))) (hS : Var w gS 9 (.string s)) :
    Calls Try.prog 32 #[.pointer (some ⟨gC, 0, none⟩), .pointer (some ⟨gO, 0, none⟩), .pointer (some ⟨gS, 0, none⟩), .pointer (some ⟨gA, 0, none⟩)] w fun e w' =>
      e = .returned (.string (rdF b s a).1) ∧ Var w' gO 4 (.bool (rdF b s a).2.1) ∧ Var w' gA 3 (.int .i64 ((rdF b s a).2.2 : Int)) ∧ Keep2 gO gA w w' := by
  have hrg := cnt_range b s a ha
  obtain ⟨n, ok, a1, hc⟩ : ∃ n ok a1, cnt b s a = (n, ok, a1) := ⟨_, _, _, rfl⟩
  have hr : rdF b s a = if ok = true ∧ n ≤ (s.size : Int) - (a1 : Int) then (s.extract a1 (a1 + n.toNat), true, a1 + n.toNat) else (⟨#[]⟩, false, a1) := by unfold rdF; rw [hc]
  have hcc := count_calls gO gA gS hOA hOS hAS s hs b a ha w hO hA hS
  rw [hc] at hrg hcc
  obtain ⟨h0, h1⟩ := hrg
  simp only at h0 h1 hcc
  obtain ⟨m, rfl⟩ := Int.eq_ofNat_of_zero_le h0
  rw [hr]
  simp only [Int.toNat_natCast]
  have HC := Aside0.mk hcc
  have HS := Aside0.mk hS
  have cC := hC.cell
  clear hr hc hcc hO hA hS hC ha
  by_cases hg : ok = true ∧ (m : Int) ≤ (s.size : Int) - (a1 : Int)
  · rw [if_pos hg]
    obtain ⟨rfl, hn⟩ := hg
    go_enter Try.func32, Try.ntmps32
    go_wp2_with (go_at_call 31; refine HC.out.mono ?_; rintro e w1 ⟨rfl, hO, hA, hK⟩; have HO := Aside0.mk hO; have HA := Aside0.mk hA; have HK := Aside0.mk hK; have cO := hO.cell; have cA := hA.cell; have fO := hO.free; have fA := hA.free; have cS := (HS.out.keep hK (Ne.symm hOS) (Ne.symm hAS)).cell; clear hO hA hK cC)
    go_ret
    exact ⟨rfl, HO.out.other hOA _ _, HA.out.set _, HK.out.set _ _ (.inr rfl)⟩
  · rw [if_neg hg]
    cases ok with
    | false =>
      clear hg
      go_enter Try.func32, Try.ntmps32
      go_wp2_with (go_at_call 31; refine HC.out.mono ?_; rintro e w1 ⟨rfl, hO, hA, hK⟩; have HO := Aside0.mk hO; have HA := Aside0.mk hA; have HK := Aside0.mk hK; have cO := hO.cell; have cA := hA.cell; have fO := hO.free; have fA := hA.free; have cS := (HS.out.keep hK (Ne.symm hOS) (Ne.symm hAS)).cell; clear hO hA hK cC)
      go_ret
      exact ⟨rfl, HO.out.set _, HA.out.other (Ne.symm hOA) _ _, HK.out.set _ _ (.inl rfl)⟩
    | true =>
      have hn : (s.size : Int) - (a1 : Int) < (m : Int) := by
        have : ¬ ((m : Int) ≤ (s.size : Int) - (a1 : Int)) := fun h => hg ⟨rfl, h⟩
        omega
      clear hg
      go_enter Try.func32, Try.ntmps32
      go_wp2_with (go_at_call 31; refine HC.out.mono ?_; rintro e w1 ⟨rfl, hO, hA, hK⟩; have HO := Aside0.mk hO; have HA := Aside0.mk hA; have HK := Aside0.mk hK; have cO := hO.cell; have cA := hA.cell; have fO := hO.free; have fA := hA.free; have cS := (HS.out.keep hK (Ne.symm hOS) (Ne.symm hAS)).cell; clear hO hA hK cC)
      go_ret
      exact ⟨rfl, HO.out.set _, HA.out.other (Ne.symm hOA) _ _, HK.out.set _ _ (.inl rfl)⟩
end Go.Proofs.Ythphoifaingbkaa.RowOf
