/- What the reference's functions come to; their contracts, told by a law's one fact. -/
import Derived.Test.YtbdamgopggeikaaVmLE
namespace Go.Proofs.Ytbdamgopggeikaa.VmW
open Go.RowKit Go.Proofs.YtbdamgopggeikaaW.PrintWords Go.Proofs.YtbdamgopggeikaaW.PrintMore Go.Proofs.YtbdamgopggeikaaW.PrintLast Go.Proofs.Ytbdamgopggeikaa.Pvm
set_option linter.unusedVariables false
set_option linter.unusedSimpArgs false
theorem rcode_f (k : Nat) (i : In) (n : Nat) : cloisterref13_may.f (k + 2) i.f0 i.f1 (n : Int) = some (okI i n) := by
  unfold cloisterref13_may.f cloisterref13_may.j0 cloisterref13_may.j1 okI
  generalize i.f0 = op
  generalize i.f1 = a
  by_cases h1 : op < 1
  · rw [if_pos h1, if_neg (show ¬ op = 1 by omega), if_neg (show ¬ op = 3 by omega), if_neg (show ¬ (op = 20 ∨ op = 21 ∨ op = 22) by omega), if_neg (show ¬ op = 24 by omega), decide_eq_false (show ¬ 1 ≤ op by omega)]; rfl
  rw [if_neg h1]
  by_cases h2 : op > 25
  · rw [decide_eq_true h2, if_neg (show ¬ op = 1 by omega), if_neg (show ¬ op = 3 by omega), if_neg (show ¬ (op = 20 ∨ op = 21 ∨ op = 22) by omega), if_neg (show ¬ op = 24 by omega), decide_eq_false (show ¬ op ≤ 25 by omega)]; simp
  have h3 : decide (op > 25) = false := decide_eq_false h2
  rw [h3]
  try dsimp only
  rw [if_neg (show ¬ (false = true) by simp)]
  by_cases e : op = 1
  · rw [if_pos e, if_pos e]
  rw [if_neg e, if_neg e]
  by_cases e : op = 3
  · rw [if_pos e, if_pos e]; by_cases h : 0 ≤ a <;> simp [h]
  rw [if_neg e, if_neg e]
  by_cases e : op = 20
  · subst e; simp; by_cases h : 0 ≤ a <;> simp [h]
  rw [if_neg e]
  by_cases e' : op = 21
  · subst e'; simp; by_cases h : 0 ≤ a <;> simp [h]
  rw [if_neg e']
  by_cases e'' : op = 22
  · subst e''; simp; by_cases h : 0 ≤ a <;> simp [h]
  have : (op == 22) = false := by simpa using e''
  rw [this]
  try dsimp only
  rw [if_neg (show ¬ (false = true) by simp), if_neg (show ¬ (op = 20 ∨ op = 21 ∨ op = 22) by omega)]
  by_cases e : op = 24
  · rw [if_pos e, if_pos e]
    by_cases h : 1 ≤ a
    · rw [if_pos h]; simp only [Option.some.injEq]; rw [Bool.eq_iff_iff]; simp; omega
    · rw [if_neg h]; simp only [Option.some.injEq]; rw [Bool.eq_iff_iff]; simp; omega
  rw [if_neg e, if_neg e]
  simp only [Option.some.injEq]
  rw [Bool.eq_iff_iff]
  simp
  omega
theorem rchk_l (code : List In) (hl : code.length ≤ 1024) : ∀ (d i : Nat), i + d = code.length → cloisterref13_Check.l0 (d + 3) code (i : Int) = some (chkL code code.length (code.drop i) i)
  | 0, i, h => by
    unfold cloisterref13_Check.l0
    rw [if_neg (by omega), List.drop_of_length_le (by omega)]; rfl
  | d + 1, i, h => by
    unfold cloisterref13_Check.l0
    have hi : i < code.length := by omega
    rw [if_pos (by omega), if_pos (by omega)]
    have hm := rcode_f (d + 1) (inAt code (i : Int)) code.length
    unfold inAt at hm
    rw [show d + 1 + 2 = d + 3 from rfl] at hm
    rw [hm, List.drop_eq_getElem_cons hi]
    have e0 := inAt_get hi
    unfold inAt at e0
    unfold chkL
    simp only [Option.bind_some]
    rw [e0]
    by_cases hok : okI code[i] code.length = true
    · rw [if_pos hok, if_pos hok, show wrap64 ((i : Int) + 1) = ((i + 1 : Nat) : Int) from by unfold wrap64; omega]
      exact rchk_l code hl d (i + 1) (by omega)
    · rw [if_neg hok, if_neg hok]
theorem rchk_f (code : List In) : cloisterref13_Check.f (code.length + 4) code = some (chkP code) := by
  unfold cloisterref13_Check.f cloisterref13_Check.j0 chkP
  by_cases h0 : code.length < 1
  · rw [if_pos (by omega), if_pos (.inl h0)]; rfl
  rw [if_neg (by omega)]
  by_cases h1 : 1024 < code.length
  · rw [if_pos (.inr h1)]
    have : decide ((code.length : Int) > 1024) = true := decide_eq_true (by omega)
    rw [this]; rfl
  · rw [if_neg (by omega)]
    have : decide ((code.length : Int) > 1024) = false := decide_eq_false (by omega)
    rw [this]
    simpa using rchk_l code (by omega) code.length 0 (by omega)
theorem rmay_l (n : Nat) (pc : Int) (st l : List Int) (hl : l.length ≤ 32) : ∀ (d i : Nat), i + d = l.length → cloisterref14_May.l0 (d + 1) (n : Int) (i : Int) pc st l = some (decide (∀ x ∈ l.drop i, 0 ≤ x ∧ x ≤ (n : Int)))
  | 0, i, h => by
    unfold cloisterref14_May.l0
    rw [if_neg (by omega), List.drop_of_length_le (by omega)]; simp
  | d + 1, i, h => by
    unfold cloisterref14_May.l0
    have hi : i < l.length := by omega
    rw [if_pos (by omega), if_pos (by omega)]
    have r1 : rd l (i : Int) = l[i] := by simp [rd, List.getD_eq_getElem?_getD, List.getElem?_eq_getElem hi]
    rw [r1, List.drop_eq_getElem_cons hi]
    by_cases h0 : l[i] < 0
    · rw [if_pos h0]; exact congrArg some (decide_eq_false (fun h => by have := h _ List.mem_cons_self; omega)).symm
    rw [if_neg h0]
    by_cases h1 : l[i] > n
    · rw [if_pos h1]; exact congrArg some (decide_eq_false (fun h => by have := h _ List.mem_cons_self; omega)).symm
    rw [if_neg h1, show wrap64 ((i : Int) + 1) = ((i + 1 : Nat) : Int) from by unfold wrap64; omega, rmay_l n pc st l hl d (i + 1) (by omega)]
    simp only [Option.some.injEq]
    rw [Bool.eq_iff_iff]
    simp only [decide_eq_true_eq, List.mem_cons, forall_eq_or_imp]
    exact ⟨fun h => ⟨⟨by omega, by omega⟩, h⟩, fun h => h.2⟩
theorem rmay_f (s : St) (n : Nat) : cloisterref14_May.f (s.ca.length + 2) s.pc s.st s.ca (n : Int) = some (decide (mayP s n)) := by
  unfold cloisterref14_May.f cloisterref14_May.j0
  by_cases h0 : s.pc < 0
  · rw [if_pos h0]; exact congrArg some (decide_eq_false (fun h => by have := h.1; omega)).symm
  rw [if_neg h0]
  by_cases h1 : s.pc > n
  · rw [if_pos h1]; exact congrArg some (decide_eq_false (fun h => by have := h.2.1; omega)).symm
  rw [if_neg h1]
  by_cases h2 : (s.st.length : Int) > 64
  · rw [if_pos h2]; exact congrArg some (decide_eq_false (fun h => by have := h.2.2.1; omega)).symm
  rw [if_neg h2]
  by_cases h3 : (s.ca.length : Int) > 32
  · rw [decide_eq_true h3]; exact congrArg some (decide_eq_false (fun h => by have := h.2.2.2.1; omega)).symm
  rw [decide_eq_false h3]
  try dsimp only
  rw [if_neg (show ¬ (false = true) by simp)]
  have := rmay_l n s.pc s.st s.ca (by omega) s.ca.length 0 (by omega)
  rw [show s.ca.length + 1 = s.ca.length + 1 from rfl] at this
  rw [show ((0 : Nat) : Int) = 0 from rfl] at this
  rw [this]
  rw [List.drop_zero]
  refine congrArg some (decide_eq_decide.2 ?_)
  exact ⟨fun h => ⟨by omega, by omega, by omega, by omega, h⟩, fun h => h.2.2.2.2⟩
def stEq (a b : St) : Prop := a.pc = b.pc ∧ a.st = b.st ∧ a.ca = b.ca
instance (a b : St) : Decidable (stEq a b) := inferInstanceAs (Decidable (_ ∧ _))
theorem rsame_f (a b : St) (h1 : a.st.length ≤ 4611686018427387904) (h2 : a.ca.length ≤ 4611686018427387904) : ∃ k, cloisterref14_Same.f k a.pc a.st a.ca b.pc b.st b.ca = some (decide (stEq a b)) := by
  refine ⟨a.st.length + a.ca.length + 1, ?_⟩
  have m1 := at_rounds (g := fun k => cloisterref01_Same.f k a.st b.st) (cloisterref01_Same.mono a.st b.st) (show a.st.length + 1 ≤ a.st.length + a.ca.length + 1 by omega) (same_f a.st b.st h1)
  have m2 := at_rounds (g := fun k => cloisterref01_Same.f k a.ca b.ca) (cloisterref01_Same.mono a.ca b.ca) (show a.ca.length + 1 ≤ a.st.length + a.ca.length + 1 by omega) (same_f a.ca b.ca h2)
  unfold cloisterref14_Same.f stEq
  by_cases h : a.pc = b.pc
  · rw [if_pos h, m1]
    simp only [Option.bind_some]
    by_cases h3 : a.st = b.st
    · rw [decide_eq_true h3, if_pos rfl, m2]; simp [h, h3]
    · rw [decide_eq_false h3]; simp [h3]
  · rw [if_neg h]; simp [h]
section
variable {w0 W : World} {bs : Bx} {os : Ro}
theorem rchkE (h : LE w0 bs os W) {Ac : Option Addr} {cc : Nat} {code : List In} (hC : Kd.C kIn W Ac code.length code) (hcap : code.length ≤ cc) {x y : Int} (he : chkP code = (x, y)) : Calls Try.prog 16 #[.slice Ac code.length cc] W fun e W' => e = .returned (.tuple #[.int .i64 x, .int .i64 y]) ∧ LE w0 bs os W' :=
  (cloisterref13_Check.calls _ Ac cc code x y W hC hcap (he ▸ rchk_f code)).mono fun e w' ⟨he, hb⟩ => ⟨he, h.step hb⟩
theorem rmayE (h : LE w0 bs os W) {s : St} {n : Nat} {A1 A2 : Option Addr} {c1 c2 : Nat} (h1 : Kd.C (Kd.int .i64) W A1 s.st.length s.st ∧ s.st.length ≤ c1) (h2 : Kd.C (Kd.int .i64) W A2 s.ca.length s.ca ∧ s.ca.length ≤ c2) {b : Bool} (hb : decide (mayP s n) = b) :
    Calls Try.prog 17 #[.agg #[.int .i64 s.pc, .slice A1 s.st.length c1, .slice A2 s.ca.length c2], .int .i64 (n : Int)] W fun e W' => e = .returned (.bool b) ∧ LE w0 bs os W' :=
  (cloisterref14_May.calls _ s.pc A1 c1 s.st A2 c2 s.ca (n : Int) b W h1.1 h1.2 h2.1 h2.2 (hb ▸ rmay_f s n)).mono fun e w' ⟨he, hb⟩ => ⟨he, h.step hb⟩
theorem rsameE (h : LE w0 bs os W) {s t : St} {A1 A2 B1 B2 : Option Addr} {c1 c2 d1 d2 : Nat} (h1 : Kd.C (Kd.int .i64) W A1 s.st.length s.st ∧ s.st.length ≤ c1) (h2 : Kd.C (Kd.int .i64) W A2 s.ca.length s.ca ∧ s.ca.length ≤ c2) (h3 : Kd.C (Kd.int .i64) W B1 t.st.length t.st ∧ t.st.length ≤ d1) (h4 : Kd.C (Kd.int .i64) W B2 t.ca.length t.ca ∧ t.ca.length ≤ d2)
    (l1 : s.st.length ≤ 4611686018427387904) (l2 : s.ca.length ≤ 4611686018427387904) {b : Bool} (hb : decide (stEq s t) = b) :
    Calls Try.prog 15 #[.agg #[.int .i64 s.pc, .slice A1 s.st.length c1, .slice A2 s.ca.length c2], .agg #[.int .i64 t.pc, .slice B1 t.st.length d1, .slice B2 t.ca.length d2]] W fun e W' => e = .returned (.bool b) ∧ LE w0 bs os W' := by
  obtain ⟨k, hk⟩ := rsame_f s t l1 l2
  exact (cloisterref14_Same.calls k s.pc A1 c1 s.st A2 c2 s.ca t.pc B1 d1 t.st B2 d2 t.ca b W h1.1 h1.2 h2.1 h2.2 h3.1 h3.2 h4.1 h4.2 (hb ▸ hk)).mono fun e w' ⟨he, hb⟩ => ⟨he, h.step hb⟩
theorem sameE (h : LE w0 bs os W) {A0 A1 : Option Addr} {c0 c1 : Nat} {x y : List Int} (h0 : Kd.C (Kd.int .i64) W A0 x.length x ∧ x.length ≤ c0) (h1 : Kd.C (Kd.int .i64) W A1 y.length y ∧ y.length ≤ c1) (hs : x.length ≤ 4611686018427387904) {b : Bool} (hb : decide (x = y) = b) :
    Calls Try.prog 18 #[.slice A0 x.length c0, .slice A1 y.length c1] W fun e W' => e = .returned (.bool b) ∧ LE w0 bs os W' :=
  (same_calls A0 c0 x A1 c1 y W h0.1 h0.2 h1.1 h1.2 hs b hb).mono fun e w' ⟨he, hb⟩ => ⟨he, h.step hb⟩
/-- A row of one against a literal of one. -/
theorem oneE (h : LE w0 bs os W) {A : Option Addr} {c : Nat} {x y : Int} (hm : (A, c, [x]) ∈ os) (n : Nat) (hn : n = W.heap.size) {b : Bool} (hb : decide (x = y) = b) :
    Calls Try.prog 18 #[.slice A 1 c, .slice (some ⟨n, 0, none⟩) 1 1] (W.alloc (.cells #[.int .i64 y] 3)) fun e W' => e = .returned (.bool b) ∧ LE w0 bs os W' := by
  subst hn
  have h2 := h.step (below_alloc (Below.refl W.heap.size W) (.cells #[.int .i64 y] 3))
  exact sameE (x := [x]) (y := [y]) h2 (h2.r hm) ⟨lit_C W [y] (by simp) _ rfl, Nat.le_refl 1⟩ (by simp) (by rw [← hb]; exact decide_eq_decide.2 (by simp))
end
end Go.Proofs.Ytbdamgopggeikaa.VmW
