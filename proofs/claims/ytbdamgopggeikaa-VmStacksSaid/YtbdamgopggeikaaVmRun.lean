/- vm.Run. -/
import Derived.Test.YtbdamgopggeikaaVmStep
namespace Go.Proofs.Ytbdamgopggeikaa.VmW
open Go.RowKit Go.Proofs.YtbdamgopggeikaaW.PrintWords Go.Proofs.YtbdamgopggeikaaW.PrintMore Go.Proofs.YtbdamgopggeikaaW.PrintLast Go.Proofs.Ytbdamgopggeikaa.Pvm
set_option linter.unusedVariables false
set_option linter.unusedSimpArgs false
/-- What Run comes to: state, memory, kind, trap, used, errno. -/
structure Res where
  s : St
  m : Mem
  kind : Int
  trap : Int
  used : Int
  err : Int
def runAll (code : List In) (s : St) (m : Mem) (fuel : Int) : Res :=
  if (chkP code).1 ≠ 0 then ⟨⟨0, [], []⟩, m, 0, 0, 0, (chkP code).1⟩
  else if fuel < 0 ∨ 1048576 < fuel ∨ ¬ mayP s code.length then ⟨⟨0, [], []⟩, m, 0, 0, 0, 1⟩
  else ⟨(runP memK code fuel.toNat 0 s m).1, (runP memK code fuel.toNat 0 s m).2.1, (runP memK code fuel.toNat 0 s m).2.2.1, (runP memK code fuel.toNat 0 s m).2.2.2.1, (runP memK code fuel.toNat 0 s m).2.2.2.2, 0⟩
def stV (s : St) (A1 : Option Addr) (c1 : Nat) (A2 : Option Addr) (c2 : Nat) : Value := .agg #[.int .i64 s.pc, .slice A1 s.st.length c1, .slice A2 s.ca.length c2]
def RunPost (w : World) (p : Value) (f : Nat → Prop) (r : Res) (e : Ending) (w' : World) : Prop :=
  ∃ A1 c1 A2 c2 f', e = .returned (.tuple #[stV r.s A1 c1 A2 c2, .agg #[.int .i64 r.kind, .int .i64 r.trap, .int .i64 r.used], .int .i64 r.err]) ∧
    w'.ownsRow w.heap.size 3 1 (.slice A1 r.s.st.length c1) r.s.st.length (nums .i64 r.s.st) ∧ w'.ownsRow w.heap.size 3 1 (.slice A2 r.s.ca.length c2) r.s.ca.length (nums .i64 r.s.ca) ∧ NeRow (.slice A1 r.s.st.length c1) (.slice A2 r.s.ca.length c2) ∧
    MemP w' p f' r.m ∧ Mv w w' f ∧ (∀ k, f' k → f k ∨ w.heap.size ≤ k) ∧ (∀ k, f' k → (Value.slice A1 r.s.st.length c1).ownBlock ≠ some k ∧ (Value.slice A2 r.s.ca.length c2).ownBlock ≠ some k)
/-- A run's own: the machine, the boxes of what it returns. -/
structure RE (W : World) (g : Nat) (Ac : Option Addr) (cc : Nat) (code : List In) (p : Value) (f0 : Nat → Prop) (f : Nat → Prop) (v1 v2 : Value) (s : St) (m : Mem) (W' : World) : Prop where
  m : Mach W' (W.heap.size + 3) g Ac cc code p f v1 v2 s m
  mv : Mv W W' f0
  af : ∀ k, f k → f0 k ∨ W.heap.size + 3 ≤ k
  b8 : W'.heap[W.heap.size + 1]? = some (.cells #[.int .i64 0, .slice none 0 0, .slice none 0 0] 25 (0, 0))
  b9 : W'.heap[W.heap.size + 2]? = some (.cells #[.int .i64 0, .int .i64 0, .int .i64 0] 33 (0, 0))
section
variable {W W' W2 : World} {g : Nat} {Ac : Option Addr} {cc : Nat} {code : List In} {p : Value} {f0 f : Nat → Prop} {v1 v2 : Value} {s : St} {m : Mem}
theorem RE.step (h : RE W g Ac cc code p f0 f v1 v2 s m W') (hb : Below W'.heap.size W' W2) : RE W g Ac cc code p f0 f v1 v2 s m W2 :=
  ⟨h.m.step hb, h.mv.trans (Mv.of_below hb (fun _ => False)) (fun _ e => e.elim), h.af, (hb.block _ (blk_lt h.b8)).trans h.b8, (hb.block _ (blk_lt h.b9)).trans h.b9⟩
theorem RE.size (h : RE W g Ac cc code p f0 f v1 v2 s m W') : W.heap.size + 3 ≤ W'.heap.size := blk_lt h.b9
theorem RE.turn (h : RE W g Ac cc code p f0 f v1 v2 s m W') (hlt : ∀ k, f0 k → k < W.heap.size) {r : St × Mem × Int × Int} {e : Ending} (hp : StepPost W' (W.heap.size + 3) g Ac cc code p f v1 v2 r e W2) :
    ∃ f' B1 d1 B2 d2, e = .returned (.agg #[.int .i64 r.2.2.1, .int .i64 r.2.2.2, .int .i64 0]) ∧ RE W g Ac cc code p f0 f' (.slice B1 r.1.st.length d1) (.slice B2 r.1.ca.length d2) r.1 r.2.1 W2 := by
  obtain ⟨v1', v2', f', he, hm, hv, a1, a2, hf⟩ := hp
  obtain ⟨B1, d1, rfl⟩ := own_slice hm.stk
  obtain ⟨B2, d2, rfl⟩ := own_slice hm.cal
  have hs := h.size
  have hgb := h.m.gb
  have hmS : ∀ k, mS g v1 v2 f k → f0 k ∨ W.heap.size + 3 ≤ k := fun k e => by
    rcases e with e | e | e | e
    · exact .inr (by omega)
    · exact .inr (own_base h.m.stk k e)
    · exact .inr (own_base h.m.cal k e)
    · exact h.af k e
  refine ⟨f', B1, d1, B2, d2, he, hm, h.mv.trans hv (fun k e => (hmS k e).imp id (fun hle => by omega)), fun k e => (hf k e).elim (h.af k) (fun hle => .inr (by omega)), hv.blk h.b8 (fun e => ?_), hv.blk h.b9 (fun e => ?_)⟩
  · rcases hmS _ e with e | e
    · have := hlt _ e; omega
    · omega
  · rcases hmS _ e with e | e
    · have := hlt _ e; omega
    · omega
theorem RE.cells {B1 B2 : Option Addr} {d1 d2 n1 n2 : Nat} (h : RE W g Ac cc code p f0 f (.slice B1 n1 d1) (.slice B2 n2 d2) s m W') :
    W'.cell? ⟨g, 1, none⟩ = some (.int .i64 s.pc) ∧ W'.cell? ⟨g, 2, none⟩ = some (.slice B1 n1 d1) ∧ W'.cell? ⟨g, 3, none⟩ = some (.slice B2 n2 d2) ∧
    W'.cell? ⟨W.heap.size + 1, 0, none⟩ = some (.int .i64 0) ∧ W'.cell? ⟨W.heap.size + 1, 1, none⟩ = some (.slice none 0 0) ∧ W'.cell? ⟨W.heap.size + 1, 2, none⟩ = some (.slice none 0 0) ∧ W'.frozen? ⟨W.heap.size + 1, 0, none⟩ = false ∧ W'.frozen? ⟨W.heap.size + 1, 1, none⟩ = false ∧ W'.frozen? ⟨W.heap.size + 1, 2, none⟩ = false ∧
    W'.cell? ⟨W.heap.size + 2, 0, none⟩ = some (.int .i64 0) ∧ W'.cell? ⟨W.heap.size + 2, 1, none⟩ = some (.int .i64 0) ∧ W'.cell? ⟨W.heap.size + 2, 2, none⟩ = some (.int .i64 0) ∧ W'.frozen? ⟨W.heap.size + 2, 0, none⟩ = false ∧ W'.frozen? ⟨W.heap.size + 2, 1, none⟩ = false ∧ W'.frozen? ⟨W.heap.size + 2, 2, none⟩ = false :=
  ⟨blk_cell h.m.box 1, blk_cell h.m.box 2, blk_cell h.m.box 3, blk_cell h.b8 0, blk_cell h.b8 1, blk_cell h.b8 2, blk_frozen h.b8 0, blk_frozen h.b8 1, blk_frozen h.b8 2, blk_cell h.b9 0, blk_cell h.b9 1, blk_cell h.b9 2, blk_frozen h.b9 0, blk_frozen h.b9 1, blk_frozen h.b9 2⟩
/-- The world in which the results' boxes have been written. -/
def outW (W W' : World) (a b c x y z : Value) : World :=
  (((((W'.setCell ⟨W.heap.size + 1, 0, none⟩ a).setCell ⟨W.heap.size + 1, 1, none⟩ b).setCell ⟨W.heap.size + 1, 2, none⟩ c).setCell ⟨W.heap.size + 2, 0, none⟩ x).setCell ⟨W.heap.size + 2, 1, none⟩ y).setCell ⟨W.heap.size + 2, 2, none⟩ z
theorem RE.out (h : RE W g Ac cc code p f0 f v1 v2 s m W') (a b c x y z : Value) :
    (outW W W' a b c x y z).heap[W.heap.size + 1]? = some (.cells #[a, b, c] 25 (0, 0)) ∧ (outW W W' a b c x y z).heap[W.heap.size + 2]? = some (.cells #[x, y, z] 33 (0, 0)) := by
  have n1 : W.heap.size + 1 ≠ W.heap.size + 2 := by omega
  have h8 := blk_set (blk_set (blk_set h.b8 0 a) 1 b) 2 c
  have h9 := blk_far (blk_far (blk_far h.b9 (p := ⟨W.heap.size + 1, 0, none⟩) n1.symm a) (p := ⟨W.heap.size + 1, 1, none⟩) n1.symm b) (p := ⟨W.heap.size + 1, 2, none⟩) n1.symm c
  exact ⟨blk_far (blk_far (blk_far h8 (p := ⟨W.heap.size + 2, 0, none⟩) n1 x) (p := ⟨W.heap.size + 2, 1, none⟩) n1 y) (p := ⟨W.heap.size + 2, 2, none⟩) n1 z, blk_set (blk_set (blk_set h9 0 x) 1 y) 2 z⟩
theorem RE.done {B1 B2 : Option Addr} {d1 d2 : Nat} (h : RE W g Ac cc code p f0 f (.slice B1 s.st.length d1) (.slice B2 s.ca.length d2) s m W') (hlt : ∀ k, f0 k → k < W.heap.size) (a b c x y z : Value) (kind trap used err : Int) {e : Ending}
    (he : e = .returned (.tuple #[.agg #[.int .i64 s.pc, .slice B1 s.st.length d1, .slice B2 s.ca.length d2], .agg #[.int .i64 kind, .int .i64 trap, .int .i64 used], .int .i64 err])) : RunPost W p f0 ⟨s, m, kind, trap, used, err⟩ e (outW W W' a b c x y z) := by
  have hm : Mv W' (outW W W' a b c x y z) (fun k => k = W.heap.size + 1 ∨ k = W.heap.size + 2) :=
    ((((((Mv.refl W' (fun k => k = W.heap.size + 1 ∨ k = W.heap.size + 2)).set (p := ⟨W.heap.size + 1, 0, none⟩) (.inl (.inl rfl)) a).set (p := ⟨W.heap.size + 1, 1, none⟩) (.inl (.inl rfl)) b).set (p := ⟨W.heap.size + 1, 2, none⟩) (.inl (.inl rfl)) c).set (p := ⟨W.heap.size + 2, 0, none⟩) (.inl (.inr rfl)) x).set (p := ⟨W.heap.size + 2, 1, none⟩) (.inl (.inr rfl)) y).set (p := ⟨W.heap.size + 2, 2, none⟩) (.inl (.inr rfl)) z
  have hf : ∀ k, f k → ¬ (k = W.heap.size + 1 ∨ k = W.heap.size + 2) := fun k e e2 => by
    rcases h.af k e with e3 | e3
    · have := hlt k e3; omega
    · omega
  refine ⟨B1, d1, B2, d2, f, he, own_less (hm.own h.m.stk (fun k e e2 => by have := own_base h.m.stk k e; omega)) (by omega), own_less (hm.own h.m.cal (fun k e e2 => by have := own_base h.m.cal k e; omega)) (by omega), h.m.ne, h.m.mem.mv hm hf, h.mv.trans hm (fun k e => .inr (by omega)), fun k e => (h.af k e).imp id (fun hle => by omega), fun k e => (h.m.memf k e).2⟩
end
end Go.Proofs.Ytbdamgopggeikaa.VmW
