/- The machine's instructions, plainly: states, what each does. A memory is a letter here: what it loads and stores. The machine on two memories that answer alike. -/
import Derived.Test.YtkjdhhdkfbkgpaaPvmx
namespace Go.Proofs.Ytkjdhhdkfbkgpaa.VmW
open Go.RowKit Go.Proofs.YtkjdhhdkfbkgpaaW.PrintWords Go.Proofs.YtkjdhhdkfbkgpaaW.PrintMore Go.Proofs.YtkjdhhdkfbkgpaaW.PrintLast Go.Proofs.Ytkjdhhdkfbkgpaa.Pvm
set_option linter.unusedVariables false
set_option linter.unusedSimpArgs false
abbrev In := S27
abbrev kIn : Kd In := k27
def inAt (l : List In) (i : Int) : In := rd_T27 l i
structure St where
  pc : Int
  st : List Int
  ca : List Int
/-- A memory's kind: what it loads, what becomes of it. -/
structure MemK (M : Type) where
  load : M → Int → M × Int × Bool
  store : M → Int → Int → M × Bool
def lastP (s : List Int) (k : Nat) : Int := s.getD (s.length - 1 - k) 0
def cutP (s : List Int) (t : Nat) : List Int := s.take (s.length - t)
def bitP (b : Bool) : Int := if b then 1 else 0
def bothP (op x y : Int) : Int × Bool :=
  if op = 5 then (wrap64 (x + y), true) else if op = 6 then (wrap64 (x - y), true) else if op = 7 then (wrap64 (x * y), true) else if op = 10 then (Go.bits .and .i64 x y, true) else if op = 11 then (Go.bits .or .i64 x y, true) else if op = 12 then (Go.bits .xor .i64 x y, true)
  else if op = 13 then (shl .i64 x (Go.bits .and .i64 y 63), true) else if op = 14 then (shr .i64 x (Go.bits .and .i64 y 63), true) else if op = 15 then (bitP (x == y), true) else if op = 16 then (bitP (decide (x < y)), true)
  else if y = 0 then (0, false) else if op = 8 then (wrap64 (Int.tdiv x y), true) else (Int.tmod x y, true)
theorem and_mask (y m : Int) (k M : Nat) (hm : m = (M : Int) - 1) (hM : M = 2 ^ k) (hk : k ≤ 16) : Go.bits .and .i64 y m = y % (M : Int) := by
  have hp : M ≤ 65536 := by rw [hM]; exact Nat.pow_le_pow_right (by omega) hk
  have h1 : 0 < M := by rw [hM]; exact Nat.two_pow_pos k
  have hd : M ∣ 18446744073709551616 := by
    rw [hM, show (18446744073709551616 : Nat) = 2 ^ 64 from rfl]
    exact Nat.pow_dvd_pow 2 (by omega)
  have hd2 : (M : Int) ∣ 18446744073709551616 := by
    obtain ⟨q, hq⟩ := hd
    exact ⟨(q : Int), by rw [← Int.natCast_mul, ← hq]; rfl⟩
  have e2 : (BitVec.ofInt 64 m).toNat = M - 1 := by
    rw [BitVec.toNat_ofInt]; omega
  have e1 : ((BitVec.ofInt 64 y).toNat : Int) = y % 18446744073709551616 := by
    rw [BitVec.toNat_ofInt]
    omega
  show IntKind.i64.wrap ((BitVec.ofInt 64 y &&& BitVec.ofInt 64 m).toNat : Int) = _
  rw [BitVec.toNat_and, e2, hM, Nat.and_two_pow_sub_one_eq_mod, ← hM, Int.natCast_emod, e1, Int.emod_emod_of_dvd y hd2]
  have g0 := Int.emod_nonneg y (show (M : Int) ≠ 0 by omega)
  have g1 := Int.emod_lt_of_pos y (show (0 : Int) < M by omega)
  rw [IntKind.wrap_i64]
  omega
theorem and63' (y : Int) : Go.bits .and .i64 y 63 = y % 64 := and_mask y 63 6 64 rfl rfl (by decide)
theorem and127 (y : Int) : Go.bits .and .i64 y 127 = y % 128 := and_mask y 127 7 128 rfl rfl (by decide)
theorem and511 (y : Int) : Go.bits .and .i64 y 511 = y % 512 := and_mask y 511 9 512 rfl rfl (by decide)
theorem and63 (y : Int) : 0 ≤ Go.bits .and .i64 y 63 := by rw [and63']; omega
def hasP (op a : Int) (n : Nat) : Bool :=
  if op = 1 then decide (n < 64) else if op = 3 then decide (a < n) && decide (n < 64) else if op = 2 ∨ op = 17 ∨ op = 18 ∨ op = 21 then decide (1 ≤ n) else if op = 20 ∨ op = 22 ∨ op = 23 ∨ op = 24 ∨ op = 25 then true else decide (2 ≤ n)
def okI (i : In) (n : Nat) : Bool :=
  if i.f0 = 1 then true else if i.f0 = 3 then decide (0 ≤ i.f1) && decide (i.f1 < 64) else if i.f0 = 20 ∨ i.f0 = 21 ∨ i.f0 = 22 then decide (0 ≤ i.f1) && decide (i.f1 < n) else if i.f0 = 24 then decide (0 < i.f1) && decide (i.f1 < 100) else decide (1 ≤ i.f0) && (decide (i.f0 ≤ 25) && decide (i.f1 = 0))
def mayP (s : St) (n : Nat) : Prop := 0 ≤ s.pc ∧ s.pc ≤ n ∧ s.st.length ≤ 64 ∧ s.ca.length ≤ 32 ∧ ∀ x ∈ s.ca, 0 ≤ x ∧ x ≤ n
instance (s : St) (n : Nat) : Decidable (mayP s n) := inferInstanceAs (Decidable (_ ∧ _))
section
variable {M : Type} (K : MemK M)
def opP (op a : Int) (s : St) (m : M) : St × M × Int × Int :=
  if op = 1 then (⟨s.pc + 1, s.st ++ [a], s.ca⟩, m, 0, 0)
  else if op = 3 then (⟨s.pc + 1, s.st ++ [lastP s.st a.toNat], s.ca⟩, m, 0, 0)
  else if op = 2 then (⟨s.pc + 1, cutP s.st 1, s.ca⟩, m, 0, 0)
  else if op = 4 then (⟨s.pc + 1, cutP s.st 2 ++ [lastP s.st 0, lastP s.st 1], s.ca⟩, m, 0, 0)
  else if op = 17 then (⟨s.pc + 1, cutP s.st 1 ++ [bitP (lastP s.st 0 == 0)], s.ca⟩, m, 0, 0)
  else if op = 18 then if (K.load m (lastP s.st 0)).2.2 = true then (⟨s.pc + 1, cutP s.st 1 ++ [(K.load m (lastP s.st 0)).2.1], s.ca⟩, (K.load m (lastP s.st 0)).1, 0, 0) else (s, (K.load m (lastP s.st 0)).1, 4, 0)
  else if op = 19 then if (K.store m (lastP s.st 0) (lastP s.st 1 % 256)).2 = true then (⟨s.pc + 1, cutP s.st 2, s.ca⟩, (K.store m (lastP s.st 0) (lastP s.st 1 % 256)).1, 0, 0) else (s, (K.store m (lastP s.st 0) (lastP s.st 1 % 256)).1, 4, 0)
  else if op = 20 then (⟨a, s.st, s.ca⟩, m, 0, 0)
  else if op = 21 then (⟨if lastP s.st 0 = 0 then s.pc + 1 else a, cutP s.st 1, s.ca⟩, m, 0, 0)
  else if op = 22 then if s.ca.length = 32 then (s, m, 4, 0) else (⟨a, s.st, s.ca ++ [s.pc + 1]⟩, m, 0, 0)
  else if op = 23 then if s.ca.length = 0 then (s, m, 4, 0) else (⟨lastP s.ca 0, s.st, cutP s.ca 1⟩, m, 0, 0)
  else if op = 24 then (⟨s.pc + 1, s.st, s.ca⟩, m, 2, a)
  else if op = 25 then (s, m, 3, 0)
  else if (bothP op (lastP s.st 1) (lastP s.st 0)).2 = true then (⟨s.pc + 1, cutP s.st 2 ++ [(bothP op (lastP s.st 1) (lastP s.st 0)).1], s.ca⟩, m, 0, 0) else (s, m, 4, 0)
def stepP (code : List In) (s : St) (m : M) : St × M × Int × Int :=
  if s.pc = (code.length : Int) then (s, m, 4, 0)
  else if hasP (inAt code s.pc).f0 (inAt code s.pc).f1 s.st.length = false then (s, m, 4, 0)
  else opP K (inAt code s.pc).f0 (inAt code s.pc).f1 s m
/-- A run by so much fuel, so much being used already: state, memory, how it stops (kind, trap, used). -/
def runP (code : List In) : Nat → Nat → St → M → St × M × Int × Int × Int
  | 0, u, s, m => (s, m, 1, 0, (u : Int))
  | k + 1, u, s, m =>
    if (stepP K code s m).2.2.1 = 0 then runP code k (u + 1) (stepP K code s m).1 (stepP K code s m).2.1
    else ((stepP K code s m).1, (stepP K code s m).2.1, (stepP K code s m).2.2.1, (stepP K code s m).2.2.2, ((u + 1 : Nat) : Int))
end
/-- May a code be: the errno, and where. -/
def chkL (code : List In) (n : Nat) : List In → Nat → Int × Int
  | [], _ => (0, 0)
  | i :: l, k => if okI i n = true then chkL code n l (k + 1) else (130, (k : Int))
def chkP (code : List In) : Int × Int := if code.length < 1 ∨ 1024 < code.length then (2, 0) else chkL code code.length code 0
theorem chkL_ok {code : List In} {n : Nat} : ∀ {l : List In} {k : Nat}, (chkL code n l k).1 = 0 ↔ ∀ i ∈ l, okI i n = true
  | [], k => by simp [chkL]
  | i :: l, k => by
    unfold chkL
    by_cases h : okI i n = true
    · rw [if_pos h, chkL_ok]; simp [h]
    · rw [if_neg h]; simp [h]
theorem chkP_ok {code : List In} : (chkP code).1 = 0 ↔ 1 ≤ code.length ∧ code.length ≤ 1024 ∧ ∀ i ∈ code, okI i code.length = true := by
  unfold chkP
  by_cases h : code.length < 1 ∨ 1024 < code.length
  · rw [if_pos h]
    constructor
    · intro e; simp at e
    · rintro ⟨a, b, _⟩; omega
  · rw [if_neg h, chkL_ok]
    constructor
    · intro e; exact ⟨by omega, by omega, e⟩
    · rintro ⟨_, _, e⟩; exact e
theorem inAt_mem {code : List In} {i : Int} (h0 : 0 ≤ i) (h1 : i < code.length) : inAt code i ∈ code := by
  have h : i.toNat < code.length := by omega
  unfold inAt rd_T27
  rw [List.getD_eq_getElem?_getD, List.getElem?_eq_getElem h]
  exact List.getElem_mem h
theorem cutP_len (s : List Int) (t : Nat) : (cutP s t).length = s.length - t := by unfold cutP; rw [List.length_take]; omega
theorem lastP_mem {s : List Int} (h : s.length ≠ 0) : lastP s 0 ∈ s := by
  unfold lastP
  have h1 : s.length - 1 - 0 < s.length := by omega
  rw [List.getD_eq_getElem?_getD, List.getElem?_eq_getElem h1]
  exact List.getElem_mem h1
section
variable {M : Type} (K : MemK M)
/-- Where a code may be and a state may be, the next state may be. -/
theorem mk_may {pc : Int} {st ca : List Int} {n : Nat} (h0 : 0 ≤ pc) (h1 : pc ≤ n) (h2 : st.length ≤ 64) (h3 : ca.length ≤ 32) (h4 : ∀ x ∈ ca, 0 ≤ x ∧ x ≤ n) : mayP ⟨pc, st, ca⟩ n := ⟨h0, h1, h2, h3, h4⟩
theorem opP_may {op a : Int} {s : St} {m : M} {n : Nat} (hs : mayP s n) (hpc : s.pc < n) (ho : okI ⟨op, a⟩ n = true) (hh : hasP op a s.st.length = true) : mayP (opP K op a s m).1 n := by
  have hs' := hs
  obtain ⟨h0, h1, h2, h3, h4⟩ := hs
  have hca : ∀ t, ∀ x ∈ cutP s.ca t, 0 ≤ x ∧ x ≤ n := fun t x hx => h4 x (List.mem_of_mem_take hx)
  have c1 := cutP_len s.st 1
  have c2 := cutP_len s.st 2
  have c3 := cutP_len s.ca 1
  unfold okI at ho
  unfold hasP at hh
  simp only at ho
  unfold opP
  by_cases e : op = 1
  · subst e; simp at hh ho; simp only [if_true]; exact mk_may (by omega) (by omega) (by simp; omega) h3 h4
  rw [if_neg e]; rw [if_neg e] at hh ho
  by_cases e : op = 3
  · subst e; simp at hh ho; simp only [if_true]; exact mk_may (by omega) (by omega) (by simp; omega) h3 h4
  rw [if_neg e]; rw [if_neg e] at hh ho
  by_cases e : op = 2
  · subst e; simp at hh ho; simp only [if_true]; exact mk_may (by omega) (by omega) (by omega) h3 h4
  rw [if_neg e]
  by_cases e : op = 4
  · subst e; simp at hh ho; simp only [if_true]; exact mk_may (by omega) (by omega) (by simp; omega) h3 h4
  rw [if_neg e]
  by_cases e : op = 17
  · subst e; simp at hh ho; simp only [if_true]; exact mk_may (by omega) (by omega) (by simp; omega) h3 h4
  rw [if_neg e]
  by_cases e : op = 18
  · subst e; simp at hh ho; simp only [if_true]; split
    · exact mk_may (by omega) (by omega) (by simp; omega) h3 h4
    · exact hs'
  rw [if_neg e]
  by_cases e : op = 19
  · subst e; simp at hh ho; simp only [if_true]; split
    · exact mk_may (by omega) (by omega) (by omega) h3 h4
    · exact hs'
  rw [if_neg e]
  by_cases e : op = 20
  · subst e; simp at hh ho; simp only [if_true]; exact mk_may (by omega) (by omega) h2 h3 h4
  rw [if_neg e]
  by_cases e : op = 21
  · subst e; simp at hh ho; simp only [if_true]; exact mk_may (by split <;> omega) (by split <;> omega) (by omega) h3 h4
  rw [if_neg e]
  by_cases e : op = 22
  · subst e; simp at hh ho; simp only [if_true]; split
    · exact hs'
    · refine mk_may (by omega) (by omega) h2 (by simp; omega) fun x hx => ?_
      rcases List.mem_append.1 hx with hx | hx
      · exact h4 x hx
      · simp at hx; omega
  rw [if_neg e]
  by_cases e : op = 23
  · subst e; simp at hh ho; simp only [if_true]; split
    · exact hs'
    · rename_i hne
      have := h4 _ (lastP_mem hne)
      exact mk_may (by omega) (by omega) h2 (by omega) (hca 1)
  rw [if_neg e]
  by_cases e : op = 24
  · subst e; simp at hh ho; simp only [if_true]; exact mk_may (by omega) (by omega) h2 h3 h4
  rw [if_neg e]
  by_cases e : op = 25
  · subst e; simp only [if_true]; exact hs'
  rw [if_neg e]
  rw [if_neg (by omega), if_neg (by omega)] at hh
  simp at hh
  split
  · exact mk_may (by omega) (by omega) (by simp; omega) h3 h4
  · exact hs'
theorem stepP_may {code : List In} {s : St} {m : M} (hs : mayP s code.length) (hc : ∀ i ∈ code, okI i code.length = true) : mayP (stepP K code s m).1 code.length := by
  unfold stepP
  by_cases e : s.pc = (code.length : Int)
  · rw [if_pos e]; exact hs
  · rw [if_neg e]
    have hlt : s.pc < code.length := by have := hs.2.1; omega
    by_cases h : hasP (inAt code s.pc).f0 (inAt code s.pc).f1 s.st.length = false
    · rw [if_pos h]; exact hs
    · rw [if_neg h]
      exact opP_may K hs hlt (hc _ (inAt_mem hs.1 hlt)) (by simpa using h)
end
theorem both_f (op x y : Int) : vm_both.f op x y = some (bothP op x y) := by
  unfold vm_both.f bothP
  by_cases e : op = 5
  · subst e; rfl
  rw [if_neg e, if_neg e]
  by_cases e : op = 6
  · subst e; rfl
  rw [if_neg e, if_neg e]
  by_cases e : op = 7
  · subst e; rfl
  rw [if_neg e, if_neg e]
  by_cases e : op = 10
  · subst e; rfl
  rw [if_neg e, if_neg e]
  by_cases e : op = 11
  · subst e; rfl
  rw [if_neg e, if_neg e]
  by_cases e : op = 12
  · subst e; rfl
  rw [if_neg e, if_neg e]
  by_cases e : op = 13
  · subst e; rw [if_pos rfl, if_pos rfl, if_pos (and63 y)]
  rw [if_neg e, if_neg e]
  by_cases e : op = 14
  · subst e; rw [if_pos rfl, if_pos rfl, if_pos (and63 y)]
  rw [if_neg e, if_neg e]
  by_cases e : op = 15
  · subst e
    rw [if_pos rfl, if_pos rfl]
    unfold vm_bit.f bitP
    by_cases h : (x == y) = true <;> simp [h]
  rw [if_neg e, if_neg e]
  by_cases e : op = 16
  · subst e
    rw [if_pos rfl, if_pos rfl]
    unfold vm_bit.f bitP
    by_cases h : decide (x < y) = true <;> simp [h]
  rw [if_neg e, if_neg e]
  by_cases e : y = 0
  · rw [if_pos e, if_pos e]
  rw [if_neg e, if_neg e]
  by_cases e : op = 8
  · rw [if_pos e, if_pos e]
  · rw [if_neg e, if_neg e]
theorem code_f (i : In) (n : Nat) : code_may.f 1 i.f0 i.f1 (n : Int) = some (okI i n) := by
  unfold code_may.f code_may.j0 okI
  generalize i.f0 = op
  generalize i.f1 = a
  by_cases e : op = 1
  · simp [e]
  rw [if_neg e, if_neg e]
  by_cases e : op = 3
  · subst e; simp; by_cases h : 0 ≤ a <;> simp [h]
  rw [if_neg e, if_neg e]
  by_cases e : op = 20
  · subst e; simp; by_cases h : 0 ≤ a <;> simp [h]
  rw [if_neg e]
  by_cases e' : op = 21
  · subst e'; simp; by_cases h : 0 ≤ a <;> simp [h]
  rw [if_neg e']
  by_cases e'' : op = 22
  · subst e''; simp; by_cases h : 0 ≤ a <;> simp [h]
  have : (op == 22) = false := by simpa using e''
  rw [this]
  dsimp only
  rw [if_neg (show ¬ (false = true) by simp), if_neg (show ¬ (op = 20 ∨ op = 21 ∨ op = 22) by omega)]
  by_cases e : op = 24
  · subst e; simp; by_cases h : 0 < a <;> simp [h]
  rw [if_neg e, if_neg e]
  by_cases h : op ≥ 1
  · rw [if_pos h]
    by_cases h2 : op ≤ 25
    · rw [if_pos h2]; simp [h, h2]
      rw [Bool.eq_iff_iff]; simp
    · rw [if_neg h2]; simp [h2]
  · rw [if_neg h]; simp [h]
end Go.Proofs.Ytkjdhhdkfbkgpaa.VmW
namespace Go.Proofs.Ytkjdhhdkfbkgpaa.VmW
open Go.RowKit Go.Proofs.YtkjdhhdkfbkgpaaW.PrintWords Go.Proofs.YtkjdhhdkfbkgpaaW.PrintMore Go.Proofs.YtkjdhhdkfbkgpaaW.PrintLast Go.Proofs.Ytkjdhhdkfbkgpaa.Pvm
set_option linter.unusedVariables false
set_option linter.unusedSimpArgs false
section
variable {Ma Mb : Type}
/-- Two memories' kinds answer alike, where memories are alike. -/
structure Alike (Ka : MemK Ma) (Kb : MemK Mb) (S : Ma → Mb → Prop) : Prop where
  load : ∀ m n a, S m n → (Ka.load m a).2 = (Kb.load n a).2 ∧ S (Ka.load m a).1 (Kb.load n a).1
  store : ∀ m n a v, S m n → 0 ≤ v → v ≤ 255 → (Ka.store m a v).2 = (Kb.store n a v).2 ∧ S (Ka.store m a v).1 (Kb.store n a v).1
def RelP (S : Ma → Mb → Prop) {α : Type} (r : St × Ma × α) (r' : St × Mb × α) : Prop := r.1 = r'.1 ∧ S r.2.1 r'.2.1 ∧ r.2.2 = r'.2.2
theorem ite_rel {A B : Type} {R : A → B → Prop} {c : Prop} [Decidable c] {a b : A} {a' b' : B} (h1 : c → R a a') (h2 : ¬ c → R b b') : R (if c then a else b) (if c then a' else b') := by
  by_cases h : c
  · rw [if_pos h, if_pos h]; exact h1 h
  · rw [if_neg h, if_neg h]; exact h2 h
variable {Ka : MemK Ma} {Kb : MemK Mb} {S : Ma → Mb → Prop}
theorem opP_sim (hA : Alike Ka Kb S) {op a : Int} {s : St} {m : Ma} {n : Mb} (h : S m n) : RelP S (opP Ka op a s m) (opP Kb op a s n) := by
  have hl := hA.load m n (lastP s.st 0) h
  have hs := hA.store m n (lastP s.st 0) (lastP s.st 1 % 256) h (by omega) (by omega)
  unfold opP
  rw [hl.1, hs.1]
  repeat' (refine ite_rel (R := RelP S) (fun h_ => ?_) (fun h_ => ?_))
  all_goals first
    | exact ⟨rfl, h, rfl⟩
    | exact ⟨rfl, hl.2, rfl⟩
    | exact ⟨rfl, hs.2, rfl⟩
theorem stepP_sim (hA : Alike Ka Kb S) {code : List In} {s : St} {m : Ma} {n : Mb} (h : S m n) : RelP S (stepP Ka code s m) (stepP Kb code s n) := by
  unfold stepP
  exact ite_rel (R := RelP S) (fun _ => ⟨rfl, h, rfl⟩) (fun _ => ite_rel (R := RelP S) (fun _ => ⟨rfl, h, rfl⟩) (fun _ => opP_sim hA h))
theorem runP_sim (hA : Alike Ka Kb S) {code : List In} : ∀ (k u : Nat) (s : St) (m : Ma) (n : Mb), S m n → RelP S (runP Ka code k u s m) (runP Kb code k u s n)
  | 0, u, s, m, n, h => ⟨rfl, h, rfl⟩
  | k + 1, u, s, m, n, h => by
    obtain ⟨e1, e2, e3⟩ := stepP_sim hA (code := code) (s := s) h
    unfold runP
    rw [e3, e1]
    exact ite_rel (R := RelP S) (fun _ => runP_sim hA k _ _ _ _ e2) (fun _ => ⟨rfl, e2, rfl⟩)
end
end Go.Proofs.Ytkjdhhdkfbkgpaa.VmW
