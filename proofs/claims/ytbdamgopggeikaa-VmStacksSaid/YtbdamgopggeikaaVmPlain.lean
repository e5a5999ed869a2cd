/- What a run leaves: kinds, traps, fuel, counts; two runs one after the other. -/
import Derived.Test.YtbdamgopggeikaaVmSem
namespace Go.Proofs.Ytbdamgopggeikaa.VmW
open Go.RowKit Go.Proofs.YtbdamgopggeikaaW.PrintWords Go.Proofs.YtbdamgopggeikaaW.PrintMore Go.Proofs.YtbdamgopggeikaaW.PrintLast Go.Proofs.Ytbdamgopggeikaa.Pvm
set_option linter.unusedVariables false
set_option linter.unusedSimpArgs false
section
variable {M : Type} (K : MemK M)
def kindOk (x y : Int) : Prop := (x = 0 ∧ y = 0) ∨ (x = 2 ∧ y ≠ 0) ∨ (x = 3 ∧ y = 0) ∨ (x = 4 ∧ y = 0)
theorem ite_ind' {α : Type} {P : α → Prop} {c : Prop} [Decidable c] {a b : α} (h1 : c → P a) (h2 : ¬ c → P b) : P (if c then a else b) := by
  by_cases h : c
  · rw [if_pos h]; exact h1 h
  · rw [if_neg h]; exact h2 h
def kP (r : St × M × Int × Int) : Prop := kindOk r.2.2.1 r.2.2.2
theorem opP_kP {op a : Int} {s : St} {m : M} (h24 : op = 24 → a ≠ 0) : kP (opP K op a s m) := by
  unfold opP
  repeat' (refine ite_ind' (P := kP) (fun h_ => ?_) (fun h_ => ?_))
  all_goals first
    | exact .inl ⟨rfl, rfl⟩
    | exact .inr (.inr (.inr ⟨rfl, rfl⟩))
    | exact .inr (.inr (.inl ⟨rfl, rfl⟩))
    | exact .inr (.inl ⟨rfl, h24 h_⟩)
theorem opP_kind {op a : Int} {s : St} {m : M} {n : Nat} (ho : okI ⟨op, a⟩ n = true) : kindOk (opP K op a s m).2.2.1 (opP K op a s m).2.2.2 := by
  refine opP_kP K ?_
  rintro rfl
  unfold okI at ho
  simp at ho
  omega
def mP (K : MemK M) (m : M) (r : St × M × Int × Int) : Prop := r.2.1 = m ∨ (∃ x, r.2.1 = (K.load m x).1) ∨ (∃ x y, r.2.1 = (K.store m x y).1)
theorem opP_mem (op a : Int) (s : St) (m : M) : mP K m (opP K op a s m) := by
  unfold opP
  repeat' (refine ite_ind' (P := mP K m) (fun h_ => ?_) (fun h_ => ?_))
  all_goals first
    | exact .inl rfl
    | exact .inr (.inl ⟨_, rfl⟩)
    | exact .inr (.inr ⟨_, _, rfl⟩)
theorem stepP_kind {code : List In} {s : St} {m : M} (hs : mayP s code.length) (hc : ∀ i ∈ code, okI i code.length = true) : kindOk (stepP K code s m).2.2.1 (stepP K code s m).2.2.2 := by
  unfold stepP
  by_cases e : s.pc = (code.length : Int)
  · rw [if_pos e]; exact .inr (.inr (.inr ⟨rfl, rfl⟩))
  · rw [if_neg e]
    have hlt : s.pc < code.length := by have := hs.2.1; omega
    by_cases h : hasP (inAt code s.pc).f0 (inAt code s.pc).f1 s.st.length = false
    · rw [if_pos h]; exact .inr (.inr (.inr ⟨rfl, rfl⟩))
    · rw [if_neg h]
      exact opP_kind K (hc _ (inAt_mem hs.1 hlt))
theorem stepP_mem (code : List In) (s : St) (m : M) : (stepP K code s m).2.1 = m ∨ (∃ x, (stepP K code s m).2.1 = (K.load m x).1) ∨ (∃ x y, (stepP K code s m).2.1 = (K.store m x y).1) := by
  unfold stepP
  split
  · exact .inl rfl
  split
  · exact .inl rfl
  exact opP_mem K _ _ s m
/-- So much has been asked of the memory. -/
def CtP (m : Mem) (u : Nat) : Prop := 0 ≤ m.loads ∧ 0 ≤ m.stores ∧ m.loads + m.stores ≤ (u : Int)
theorem CtP.step {code : List In} {s : St} {m : Mem} {u : Nat} (h : CtP m u) (hu : u ≤ 1099511627776) : CtP (stepP memK code s m).2.1 (u + 1) := by
  obtain ⟨h1, h2, h3⟩ := h
  rcases stepP_mem memK code s m with e | ⟨x, e⟩ | ⟨x, y, e⟩
  · rw [e]; exact ⟨h1, h2, by omega⟩
  · rw [e]
    have w : wrap64 (m.loads + 1) = m.loads + 1 := by unfold wrap64; omega
    show 0 ≤ wrap64 (m.loads + 1) ∧ 0 ≤ m.stores ∧ wrap64 (m.loads + 1) + m.stores ≤ _
    rw [w]; exact ⟨by omega, h2, by omega⟩
  · rw [e]
    have w : wrap64 (m.stores + 1) = m.stores + 1 := by unfold wrap64; omega
    have e1 : (memK.store m x y).1.loads = m.loads := by unfold memK; dsimp only; split <;> rfl
    have e2 : (memK.store m x y).1.stores = wrap64 (m.stores + 1) := by unfold memK; dsimp only; split <;> rfl
    unfold CtP
    rw [e1, e2, w]; exact ⟨h1, by omega, by omega⟩
structure EndsP (n u k : Nat) (r : St × Mem × Int × Int × Int) : Prop where
  may : mayP r.1 n
  ct : 0 ≤ r.2.1.loads ∧ 0 ≤ r.2.1.stores ∧ r.2.1.loads + r.2.1.stores ≤ r.2.2.2.2
  how : (r.2.2.1 = 1 ∧ r.2.2.2.1 = 0 ∧ r.2.2.2.2 = (u : Int) + k) ∨ ((kindOk r.2.2.1 r.2.2.2.1 ∧ r.2.2.1 ≠ 0) ∧ (u : Int) + 1 ≤ r.2.2.2.2 ∧ r.2.2.2.2 ≤ (u : Int) + k)
theorem runP_ends {code : List In} (hc : ∀ i ∈ code, okI i code.length = true) : ∀ (k u : Nat) (s : St) (m : Mem), mayP s code.length → CtP m u → u + k ≤ 1099511627776 → EndsP code.length u k (runP memK code k u s m)
  | 0, u, s, m, hs, hm, hu => ⟨hs, hm, .inl ⟨rfl, rfl, by show ((u : Nat) : Int) = _; omega⟩⟩
  | k + 1, u, s, m, hs, hm, hu => by
    unfold runP
    have h1 := stepP_may memK (m := m) hs hc
    have h2 := stepP_kind memK (m := m) hs hc
    have h3 := hm.step (code := code) (s := s) (by omega)
    by_cases e : (stepP memK code s m).2.2.1 = 0
    · rw [if_pos e]
      obtain ⟨a, b, c⟩ := runP_ends hc k (u + 1) _ _ h1 h3 (by omega)
      refine ⟨a, b, ?_⟩
      rcases c with ⟨c1, c2, c3⟩ | ⟨c1, c2, c3⟩
      · exact .inl ⟨c1, c2, by rw [c3]; omega⟩
      · exact .inr ⟨c1, by omega, by omega⟩
    · rw [if_neg e]
      exact ⟨h1, h3, .inr ⟨⟨h2, e⟩, by show (u : Int) + 1 ≤ ((u + 1 : Nat) : Int); omega, by show ((u + 1 : Nat) : Int) ≤ _; omega⟩⟩
/-- A run may be parted. -/
theorem runP_parts (code : List In) : ∀ (a b u : Nat) (s : St) (m : M), (runP K code a u s m).2.2.1 ≠ 1 → runP K code (a + b) u s m = runP K code a u s m
  | 0, b, u, s, m, h => absurd rfl h
  | a + 1, b, u, s, m, h => by
    rw [show a + 1 + b = (a + b) + 1 by omega]
    unfold runP
    unfold runP at h
    by_cases e : (stepP K code s m).2.2.1 = 0
    · rw [if_pos e] at h
      rw [if_pos e, if_pos e]; exact runP_parts code a b (u + 1) _ _ h
    · rw [if_neg e, if_neg e]
theorem runP_used (code : List In) : ∀ (a u v : Nat) (s : St) (m : M), runP K code a (u + v) s m = ((runP K code a u s m).1, (runP K code a u s m).2.1, (runP K code a u s m).2.2.1, (runP K code a u s m).2.2.2.1, (runP K code a u s m).2.2.2.2 + (v : Int))
  | 0, u, v, s, m => by
    show (s, m, (1 : Int), (0 : Int), ((u + v : Nat) : Int)) = (s, m, 1, 0, (u : Int) + (v : Int))
    rw [Int.natCast_add]
  | a + 1, u, v, s, m => by
    unfold runP
    by_cases e : (stepP K code s m).2.2.1 = 0
    · rw [if_pos e, if_pos e, show u + v + 1 = (u + 1) + v by omega]; exact runP_used code a (u + 1) v _ _
    · rw [if_neg e, if_neg e]
      show (_, _, _, _, ((u + v + 1 : Nat) : Int)) = (_, _, _, _, ((u + 1 : Nat) : Int) + (v : Int))
      rw [show ((u + v + 1 : Nat) : Int) = ((u + 1 : Nat) : Int) + (v : Int) by omega]
theorem runP_join (code : List In) (hc : ∀ i ∈ code, okI i code.length = true) : ∀ (a b u : Nat) (s : St) (m : M), mayP s code.length → (runP K code a u s m).2.2.1 = 1 → runP K code (a + b) u s m = runP K code b (u + a) (runP K code a u s m).1 (runP K code a u s m).2.1
  | 0, b, u, s, m, hs, h => by rw [Nat.zero_add]; rfl
  | a + 1, b, u, s, m, hs, h => by
    rw [show a + 1 + b = (a + b) + 1 by omega]
    have h1 := stepP_may K (m := m) hs hc
    have h2 := stepP_kind K (m := m) hs hc
    unfold runP at h
    have e : (stepP K code s m).2.2.1 = 0 := by
      by_cases e : (stepP K code s m).2.2.1 = 0
      · exact e
      · rw [if_neg e] at h
        have h : (stepP K code s m).2.2.1 = 1 := h
        rcases h2 with h2 | h2 | h2 | h2 <;> omega
    rw [if_pos e] at h
    have hr : runP K code (a + 1) u s m = runP K code a (u + 1) (stepP K code s m).1 (stepP K code s m).2.1 := by
      conv => lhs; unfold runP
      rw [if_pos e]
    rw [hr, show u + (a + 1) = u + 1 + a by omega, ← runP_join code hc a b (u + 1) _ _ h1 h]
    conv => lhs; unfold runP
    rw [if_pos e]
end
section
variable {w0 W : World} {bs : Bx} {os : Ro}
theorem rmayB (h : LE w0 bs os W) {s : St} {n : Nat} {A1 A2 : Option Addr} {c1 c2 : Nat} (h1 : Kd.C (Kd.int .i64) W A1 s.st.length s.st ∧ s.st.length ≤ c1) (h2 : Kd.C (Kd.int .i64) W A2 s.ca.length s.ca ∧ s.ca.length ≤ c2) {b : Bool} (hb : decide (mayP s n) = b) :
    Calls Try.prog 17 #[.agg #[.int .i64 s.pc, .slice A1 s.st.length c1, .slice A2 s.ca.length c2], .int .i64 (n : Int)] W fun e W' => e = .returned (.bool b) ∧ LE w0 bs os W' ∧ Below W.heap.size W W' :=
  (cloisterref14_May.calls _ s.pc A1 c1 s.st A2 c2 s.ca (n : Int) b W h1.1 h1.2 h2.1 h2.2 (hb ▸ rmay_f s n)).mono fun e w' ⟨he, hb⟩ => ⟨he, h.step hb, hb⟩
theorem awakeB (h : LE w0 bs os W) : Calls Try.prog 10 #[] W fun e W' => e = .returned (.bool true) ∧ LE w0 bs os W' ∧ Below W.heap.size W W' :=
  (awake_calls W).mono fun e w' ⟨he, hb⟩ => ⟨he, h.step hb, hb⟩
theorem rsameB (h : LE w0 bs os W) {s t : St} {A1 A2 B1 B2 : Option Addr} {c1 c2 d1 d2 : Nat} (h1 : Kd.C (Kd.int .i64) W A1 s.st.length s.st ∧ s.st.length ≤ c1) (h2 : Kd.C (Kd.int .i64) W A2 s.ca.length s.ca ∧ s.ca.length ≤ c2) (h3 : Kd.C (Kd.int .i64) W B1 t.st.length t.st ∧ t.st.length ≤ d1) (h4 : Kd.C (Kd.int .i64) W B2 t.ca.length t.ca ∧ t.ca.length ≤ d2)
    (l1 : s.st.length ≤ 4611686018427387904) (l2 : s.ca.length ≤ 4611686018427387904) {b : Bool} (hb : decide (stEq s t) = b) :
    Calls Try.prog 15 #[.agg #[.int .i64 s.pc, .slice A1 s.st.length c1, .slice A2 s.ca.length c2], .agg #[.int .i64 t.pc, .slice B1 t.st.length d1, .slice B2 t.ca.length d2]] W fun e W' => e = .returned (.bool b) ∧ LE w0 bs os W' ∧ Below W.heap.size W W' := by
  obtain ⟨k, hk⟩ := rsame_f s t l1 l2
  exact (cloisterref14_Same.calls k s.pc A1 c1 s.st A2 c2 s.ca t.pc B1 d1 t.st B2 d2 t.ca b W h1.1 h1.2 h2.1 h2.2 h3.1 h3.2 h4.1 h4.2 (hb ▸ hk)).mono fun e w' ⟨he, hb⟩ => ⟨he, h.step hb, hb⟩
theorem fillB (h : LE w0 bs os W) (s : ByteArray) (hs : s.size ≤ 140737488355328) (n : Nat) (hn : n = W.heap.size) : Calls Try.prog 11 #[.string s] W fun e W' => ∃ A c, e = .returned (.pointer (some ⟨n, 0, none⟩)) ∧ LE w0 bs os W' ∧ MemL w0 W' n (.slice A s.size c) ⟨bytesOf s, 0, 0⟩ ∧ Below W.heap.size W W' ∧ ∀ k, memF n (.slice A s.size c) k → W.heap.size ≤ k := by
  subst hn
  refine (filled_calls s W hs).mono ?_
  rintro e w' ⟨v, he, hm, hb, hv⟩
  obtain ⟨A, c, rfl⟩ := own_slice hm.row
  have hl : (bytesOf s).length = s.size := bytesOf_length s
  dsimp only at hm hv
  rw [hl] at hm hv
  exact ⟨A, c, he, h.step hb, ⟨hm, h.below.size, fun k hk => Nat.le_trans h.below.size (hv k hk)⟩, hb, fun k hk => hk.elim (fun e => by rw [e]; exact Nat.le_refl _) (hv k)⟩
/-- Two memories of the law's own. -/
structure Two (w0 W : World) (mb : Nat) (v : Value) (m : Mem) (nb : Nat) (v' : Value) (n : Mem) : Prop where
  a : MemL w0 W mb v m
  b : MemL w0 W nb v' n
  ap : ∀ k, memF mb v k → ¬ memF nb v' k
variable {mb nb : Nat} {v v' v2 : Value} {m n m2 : Mem} {W' : World}
theorem memL_lt (h : MemL w0 W mb v m) {k : Nat} (hk : memF mb v k) : k < W.heap.size := by
  obtain ⟨_, _, _, hh, _⟩ := h.typ k hk
  exact blk_lt hh
theorem Two.mk' (h : MemL w0 W mb v m) (hb : Below W.heap.size W W') (h' : MemL w0 W' nb v' n) (hv : ∀ k, memF nb v' k → W.heap.size ≤ k) : Two w0 W' mb v m nb v' n :=
  ⟨h.step hb, h', fun k e e2 => by have := memL_lt h e; have := hv k e2; omega⟩
theorem Two.step (h : Two w0 W mb v m nb v' n) (hb : Below W.heap.size W W') : Two w0 W' mb v m nb v' n := ⟨h.a.step hb, h.b.step hb, h.ap⟩
theorem Two.run_a (h : Two w0 W mb v m nb v' n) (hM : MemL w0 W' mb v2 m2) (hm : Mv W W' (memF mb v)) (hf : ∀ k, memF mb v2 k → memF mb v k ∨ W.heap.size ≤ k) : Two w0 W' mb v2 m2 nb v' n :=
  ⟨hM, h.b.mv hm (fun k e e2 => h.ap k e2 e), fun k e e2 => (hf k e).elim (fun e => h.ap k e e2) (fun hle => by have := memL_lt h.b e2; omega)⟩
theorem Two.run_b (h : Two w0 W mb v m nb v' n) (hM : MemL w0 W' nb v2 m2) (hm : Mv W W' (memF nb v')) (hf : ∀ k, memF nb v2 k → memF nb v' k ∨ W.heap.size ≤ k) : Two w0 W' mb v m nb v2 m2 :=
  ⟨h.a.mv hm (fun k e e2 => h.ap k e e2), hM, fun k e e2 => (hf k e2).elim (fun e2 => h.ap k e e2) (fun hle => by have := memL_lt h.a e; omega)⟩
theorem Two.str_a (h : Two w0 W mb v m nb v' n) : (convert 37 9 v).run Try.prog W = .ok (.string (strOfNums m.b)) W := own_string (P := Try.prog) Try.underlying37 Try.underlying5 Try.underlying9 h.a.at_.row
theorem Two.str_b (h : Two w0 W mb v m nb v' n) : (convert 37 9 v').run Try.prog W = .ok (.string (strOfNums n.b)) W := own_string (P := Try.prog) Try.underlying37 Try.underlying5 Try.underlying9 h.b.at_.row
end
end Go.Proofs.Ytbdamgopggeikaa.VmW
