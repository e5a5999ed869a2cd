/- row.Of's closures by hand: count (row.Of$1) reads a number at the place where the row's reader stands; read (row.Of$2) reads a text. -/
import Derived.Test.YthphoifaingbkaaHandBase
import Derived.Test.YthphoifaingbkaaWLast
import Derived.Test.YthphoifaingbkaaWMore
import Derived.Test.YthphoifaingbkaaProg
import Derived.WalkKit
import Derived.Deep.LoopGhost
import Derived.Laws.BitsLemmas
import Derived.WalkLawsBesides
import Derived.WalkSpells
namespace Go.Proofs.Ythphoifaingbkaa.RowOf
open Go.RowKit Go.Proofs.YthphoifaingbkaaW.PrintWords Go.Proofs.YthphoifaingbkaaW.PrintLast Go.Proofs.YthphoifaingbkaaW.PrintMore
set_option linter.unusedVariables false
set_option linter.unusedSimpArgs false

/-- Two blocks may have turned; all others stand. -/
structure Keep2 (a b : Nat) (w w' : World) : Prop where
  os : w'.os = w.os
  tape : w'.tape = w.tape
  output : w'.output = w.output
  size : w'.heap.size = w.heap.size
  block : ∀ i, i ≠ a → i ≠ b → w'.heap[i]? = w.heap[i]?
theorem Keep2.refl (a b : Nat) (w : World) : Keep2 a b w w := ⟨rfl, rfl, rfl, rfl, fun _ _ _ => rfl⟩
theorem Keep2.trans {a b : Nat} {w w1 w2 : World} (h : Keep2 a b w w1) (k : Keep2 a b w1 w2) : Keep2 a b w w2 :=
  ⟨k.os.trans h.os, k.tape.trans h.tape, k.output.trans h.output, k.size.trans h.size, fun i x y => (k.block i x y).trans (h.block i x y)⟩
theorem Keep2.drewN {a b : Nat} {w w1 : World} (h : Keep2 a b w w1) (n : Nat) : Keep2 a b w (w1.drewN n) := ⟨h.os, h.tape, h.output, h.size, h.block⟩
theorem heap_set_size (w : World) (p : Addr) (v : Value) : (w.setCell p v).heap.size = w.heap.size := by
  unfold World.setCell
  split <;> simp
theorem Keep2.set {a b : Nat} {w w1 : World} (h : Keep2 a b w w1) (p : Addr) (v : Value) (hp : p.block = a ∨ p.block = b) : Keep2 a b w (w1.setCell p v) :=
  ⟨by rw [← h.os]; rfl, by rw [← h.tape]; rfl, by rw [← h.output]; rfl, by rw [heap_set_size, h.size], fun i x y => by
    rw [Below.heap_setCell w1 p v i (by rcases hp with e | e <;> (rw [e]; assumption))]
    exact h.block i x y⟩

/-- A variable of one cell. -/
def Var (w : World) (g : Nat) (t : TypeId) (v : Value) : Prop := w.heap[g]? = some (.cells #[v] t (0, 0))
theorem Var.cell {w : World} {g : Nat} {t : TypeId} {v : Value} (h : Var w g t v) : w.cell? ⟨g, 0, none⟩ = some v := by unfold Var at h; simp [World.cell?, h]
theorem Var.free {w : World} {g : Nat} {t : TypeId} {v : Value} (h : Var w g t v) : w.frozen? ⟨g, 0, none⟩ = false := by unfold Var at h; simp [World.frozen?, h]
theorem Var.set {w : World} {g : Nat} {t : TypeId} {v : Value} (h : Var w g t v) (u : Value) : Var (w.setCell ⟨g, 0, none⟩ u) g t u := by
  exact one_setCell h
theorem Var.other {w : World} {g g' : Nat} {t : TypeId} {v : Value} (h : Var w g t v) (hne : g ≠ g') (i : Nat) (u : Value) : Var (w.setCell ⟨g', i, none⟩ u) g t v := by
  unfold Var at *
  rw [Below.heap_setCell w _ u g hne]; exact h
theorem Var.keep {w w' : World} {a b g : Nat} {t : TypeId} {v : Value} (h : Var w g t v) (hk : Keep2 a b w w') (h1 : g ≠ a) (h2 : g ≠ b) : Var w' g t v := (hk.block g h1 h2).trans h

/-- The number read so far, with the next seven bits. -/
def nxt (n c : Int) (i : Nat) : Int := Go.bits .or .i64 n (wrap64 (wrap64 (Go.bits .and .u8 c 127) * 2 ^ (7 * i)))
/-- The number's loop: at a place, in round i, with n read so far; d rounds are left. -/
def cntGo (s : ByteArray) : Nat → Nat → Nat → Int → Int × Bool × Nat
  | 0, a, _, n => (n, false, a)
  | d + 1, a, i, n =>
    if a = s.size ∨ i = 5 then (n, false, a)
    else if bt s a < 128 then (nxt n (bt s a) i, decide (bt s a > 0) || decide (i = 0), a + 1)
    else cntGo s d (a + 1) (i + 1) (nxt n (bt s a) i)
def cntAt (b : Bool) (s : ByteArray) (a i : Nat) (n : Int) : Int × Bool × Nat := if b = true then cntGo s (6 - i) a i n else (n, false, a)
/-- What count answers, whether it went well, where the reader stands then. -/
def cnt (b : Bool) (s : ByteArray) (a : Nat) : Int × Bool × Nat :=
  let r := cntAt b s a 0 0
  (r.1, r.2.1 && decide (r.1 ≤ 2147483647), r.2.2)

set_option maxHeartbeats 4000000 in
set_option maxRecDepth 100000 in
theorem count_calls (gO gA gS : Nat) (hOA : gO ≠ gA) (hOS : gO ≠ gS) (hAS : gA ≠ gS) (s : ByteArray) (hs : s.size ≤ 9223372036854775807) (b : Bool) (a : Nat) (ha : a ≤ s.size) (w : World)
    (hO : Var w gO 4 (.bool b)) (hA : Var w gA 3 (.int .i64 (a : Int))) (hS : Var w gS 9 (.string s)) :
    Calls Try.prog 31 #[.pointer (some ⟨gO, 0, none⟩), .pointer (some ⟨gA, 0, none⟩), .pointer (some ⟨gS, 0, none⟩)] w fun e w' =>
      e = .returned (.int .i64 (cnt b s a).1) ∧ Var w' gO 4 (.bool (cnt b s a).2.1) ∧ Var w' gA 3 (.int .i64 ((cnt b s a).2.2 : Int)) ∧ Keep2 gO gA w w' := by
  obtain ⟨R1, R2, R3, hR⟩ : ∃ R1 R2 R3, cntAt b s a 0 0 = (R1, R2, R3) := ⟨_, _, _, rfl⟩
  have hc : cnt b s a = (R1, R2 && decide (R1 ≤ 2147483647), R3) := by unfold cnt; rw [hR]
  rw [hc]
  clear hc
  have HR := Aside0.mk hR
  have HO := Aside0.mk hO
  have HA := Aside0.mk hA
  have HS := Aside0.mk hS
  clear hR hO hA hS
  go_enter Try.func31, Try.ntmps31
  go_wp2
  go_loopg [4, 5] 7 (fun kq v4 v5 w' => ∃ (n : Int) (i a' : Nat) (b' : Bool), v4 = .int .i64 n ∧ v5 = .int .i64 (i : Int) ∧ Aside0 (kq + i = 7) ∧ Aside0 (i ≤ 5) ∧ Aside0 (a' ≤ s.size) ∧ Aside0 (cntAt b' s a' i n = (R1, R2, R3)) ∧ Aside0 (Var w' gO 4 (.bool b')) ∧ Aside0 (Var w' gA 3 (.int .i64 (a' : Int))) ∧ Aside0 (Keep2 gO gA w w'))
  case atStart => exact ⟨0, 0, a, b, rfl, rfl, ⟨rfl⟩, ⟨by omega⟩, ⟨ha⟩, HR, HO, HA, ⟨Keep2.refl _ _ _⟩⟩
  case round =>
    clear HR HO HA
    obtain ⟨n, i, a', b', rfl, rfl, HK, HI, Ha, HR, HO, HA, HKe⟩ := hrel
    obtain ⟨k1, rfl⟩ : ∃ k1, gk = k1 + 1 := ⟨gk - 1, by have := HK.out; have := HI.out; omega⟩
    have hi := HI.out
    have ha' := Ha.out
    have cO := HO.out.cell
    have cA := HA.out.cell
    have cS := (HS.out.keep HKe.out (Ne.symm hOS) (Ne.symm hAS)).cell
    have fO := HO.out.free
    have fA := HA.out.free
    cases b' with
    | false =>
      have hR := HR.out
      simp only [cntAt, if_neg (show ¬ (false = true) by decide), Prod.mk.injEq] at hR
      obtain ⟨rfl, rfl, rfl⟩ := hR
      go_wp2
      go_ret
      exact ⟨rfl, HO.out.set _, HA.out.other (Ne.symm hOA) _ _, HKe.out.set _ _ (.inl rfl)⟩
    | true =>
      have hR := HR.out
      simp only [cntAt, if_true] at hR
      by_cases hend : a' = s.size ∨ i = 5
      · have hR2 : (n, false, a') = (R1, R2, R3) := by
          rw [← hR, show 6 - i = (5 - i) + 1 by omega, cntGo, if_pos hend]
        simp only [Prod.mk.injEq] at hR2
        obtain ⟨rfl, rfl, rfl⟩ := hR2
        clear hR
        by_cases he : a' = s.size
        · have t1 : ((a' : Int) == (s.size : Int)) = true := beq_iff_eq.2 (by omega)
          have t2 : (a' == s.size) = true := beq_iff_eq.2 he
          clear he hend
          go_wp2
          go_ret
          exact ⟨rfl, (HO.out.set _).set _, (HA.out.other (Ne.symm hOA) _ _).other (Ne.symm hOA) _ _, (HKe.out.set _ _ (.inl rfl)).set _ _ (.inl rfl)⟩
        · have t1 : ((a' : Int) == (s.size : Int)) = false := beq_eq_false_iff_ne.2 (by omega)
          have t2 : (a' == s.size) = false := beq_eq_false_iff_ne.2 he
          have t3 : ((i : Int) == 5) = true := beq_iff_eq.2 (by omega)
          clear he hend
          go_wp2
          go_ret
          exact ⟨rfl, (HO.out.set _).set _, (HA.out.other (Ne.symm hOA) _ _).other (Ne.symm hOA) _ _, (HKe.out.set _ _ (.inl rfl)).set _ _ (.inl rfl)⟩
      · have h1 : a' < s.size := by omega
        have h2 : i ≤ 4 := by omega
        have t1 : ((a' : Int) == (s.size : Int)) = false := beq_eq_false_iff_ne.2 (by omega)
        have t2 : (a' == s.size) = false := beq_eq_false_iff_ne.2 (by omega)
        have t3 : ((i : Int) == 5) = false := beq_eq_false_iff_ne.2 (by omega)
        have hx := bt_at s (a' : Int)
        simp only [Int.toNat_natCast] at hx
        have hrg := bt_range s (a' : Int)
        have hR2 : (if bt s a' < 128 then (nxt n (bt s a') i, decide (bt s a' > 0) || decide (i = 0), a' + 1) else cntGo s (5 - i) (a' + 1) (i + 1) (nxt n (bt s a') i)) = (R1, R2, R3) := by
          rw [← hR, show 6 - i = (5 - i) + 1 by omega, cntGo, if_neg hend]
        clear hR hend
        have HR2 := Aside0.mk hR2
        clear hR2
        generalize bt s (a' : Int) = c at *
        by_cases hc : c < 128
        · have d1 : decide (c < 128) = true := decide_eq_true hc
          by_cases hz : c > 0
          · have d2 : decide (0 < c) = true := decide_eq_true hz
            have hR3 := HR2.out
            rw [if_pos hc, show decide (c > 0) = true from decide_eq_true hz, Bool.true_or] at hR3
            simp only [Prod.mk.injEq] at hR3
            obtain ⟨q1, q2, q3⟩ := hR3
            subst q2 q3
            have Q1 := Aside0.mk q1
            clear q1
            go_wp2
            go_ret
            rw [← Q1.out]
            exact ⟨rfl, (((HO.out.other hOA _ _).set _).set _), ((HA.out.set _).other (Ne.symm hOA) _ _).other (Ne.symm hOA) _ _, ((HKe.out.set _ _ (.inr rfl)).set _ _ (.inl rfl)).set _ _ (.inl rfl)⟩
          · have d2 : decide (0 < c) = false := decide_eq_false hz
            by_cases hi0 : i = 0
            · have d3 : ((i : Int) == 0) = true := beq_iff_eq.2 (by omega)
              have hR3 := HR2.out
              rw [if_pos hc, show decide (c > 0) = false from decide_eq_false hz, Bool.false_or, decide_eq_true hi0] at hR3
              simp only [Prod.mk.injEq] at hR3
              obtain ⟨q1, q2, q3⟩ := hR3
              subst q2 q3
              have Q1 := Aside0.mk q1
              clear q1 hi0
              go_wp2
              go_ret
              rw [← Q1.out]
              exact ⟨rfl, (((HO.out.other hOA _ _).set _).set _), ((HA.out.set _).other (Ne.symm hOA) _ _).other (Ne.symm hOA) _ _, ((HKe.out.set _ _ (.inr rfl)).set _ _ (.inl rfl)).set _ _ (.inl rfl)⟩
            · have d3 : ((i : Int) == 0) = false := beq_eq_false_iff_ne.2 (by omega)
              have hR3 := HR2.out
              rw [if_pos hc, show decide (c > 0) = false from decide_eq_false hz, Bool.false_or, decide_eq_false hi0] at hR3
              simp only [Prod.mk.injEq] at hR3
              obtain ⟨q1, q2, q3⟩ := hR3
              subst q2 q3
              have Q1 := Aside0.mk q1
              clear q1 hi0
              go_wp2
              go_ret
              rw [← Q1.out]
              exact ⟨rfl, (((HO.out.other hOA _ _).set _).set _), ((HA.out.set _).other (Ne.symm hOA) _ _).other (Ne.symm hOA) _ _, ((HKe.out.set _ _ (.inr rfl)).set _ _ (.inl rfl)).set _ _ (.inl rfl)⟩
        · have d1 : decide (c < 128) = false := decide_eq_false hc
          have HR3 := Aside0.mk (show cntAt true s (a' + 1) (i + 1) (nxt n c i) = (R1, R2, R3) from by
            rw [← HR2.out, if_neg hc]; simp only [cntAt, if_true]; rw [show 6 - (i + 1) = 5 - i by omega])
          go_wp2
          go_roundg k1
          case measure => omega
          case rel => exact ⟨nxt n c i, i + 1, a' + 1, true, rfl, by go_num, ⟨by have := HK.out; omega⟩, ⟨by omega⟩, ⟨by omega⟩, HR3, ⟨HO.out.other hOA _ _⟩, ⟨by have := HA.out.set (.int .i64 ((a' : Int) + 1)); exact this⟩, ⟨HKe.out.set _ _ (.inr rfl)⟩⟩
end Go.Proofs.Ythphoifaingbkaa.RowOf
