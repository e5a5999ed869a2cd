/- The machine's step, whatever instruction it is. vm.Run. vm.Run: walked. vm.Run: nothing is run for want of a memory, by a fuel or a state that may not be. vm.Run: the run. vm.Run, whatever it is given; the law's code; awake. What laws share: the reference's Same, rows of one's own. vm.Push, vm.Take. vm.Take. -/
import Derived.Test.YtkjdhhdkfbkgpaaVmS1
import Derived.Test.YtkjdhhdkfbkgpaaVmS2
import Derived.Test.YtkjdhhdkfbkgpaaVmS3
import Derived.Test.YtkjdhhdkfbkgpaaVmS4
namespace Go.Proofs.Ytkjdhhdkfbkgpaa.VmW
open Go.RowKit Go.Proofs.YtkjdhhdkfbkgpaaW.PrintWords Go.Proofs.YtkjdhhdkfbkgpaaW.PrintMore Go.Proofs.YtkjdhhdkfbkgpaaW.PrintLast Go.Proofs.Ytkjdhhdkfbkgpaa.Pvm
set_option linter.unusedVariables false
theorem step_calls (W : World) (base g : Nat) (Ac : Option Addr) (cc : Nat) (code : List In) (p : Value) (f : Nat → Prop) (v1 v2 : Value) (s : St) (m : Mem) (h : Mach W base g Ac cc code p f v1 v2 s m) (hbase : base ≤ W.heap.size) (hs : mayP s code.length) (hc : ∀ i ∈ code, okI i code.length = true) (hlen : code.length ≤ 1024) :
    Calls Try.prog 54 #[.pointer (some ⟨g, 0, none⟩)] W (StepPost W base g Ac cc code p f v1 v2 (stepP memK code s m)) := by
  by_cases hpc : s.pc = (code.length : Int)
  · exact step_end W base g Ac cc code p f v1 v2 s m h hbase hs hpc hlen
  have hlt : s.pc < (code.length : Int) := by have := hs.2.1; omega
  rcases hi : inAt code s.pc with ⟨op, a⟩
  have hok := hc _ (inAt_mem hs.1 hlt)
  rw [hi] at hok
  cases hh : hasP op a s.st.length with
  | false => exact step_hasno W base g Ac cc code p f v1 v2 s m h hbase hs hlt hlen op a hi hh
  | true =>
    by_cases e : op = 1
    · subst e; exact step_push W base g Ac cc code p f v1 v2 s m h hbase hs hlt hlen a hi hh
    by_cases e3 : op = 3
    · subst e3; exact step_dup W base g Ac cc code p f v1 v2 s m h hbase hs hlt hlen a (by unfold okI at hok; simp at hok; exact hok.1) hi hh
    by_cases e2 : op = 2
    · subst e2; exact step_pop W base g Ac cc code p f v1 v2 s m h hbase hs hlt hlen a hi hh
    by_cases e4 : op = 4
    · subst e4; exact step_swap W base g Ac cc code p f v1 v2 s m h hbase hs hlt hlen a hi hh
    by_cases e17 : op = 17
    · subst e17; exact step_not W base g Ac cc code p f v1 v2 s m h hbase hs hlt hlen a hi hh
    by_cases e18 : op = 18
    · subst e18
      rcases hx : memK.load m (lastP s.st 0) with ⟨m', y, ok⟩
      cases ok with
      | false => exact step_loadno W base g Ac cc code p f v1 v2 s m h hbase hs hlt hlen a m' y hx hi hh
      | true => exact step_load W base g Ac cc code p f v1 v2 s m h hbase hs hlt hlen a m' y hx hi hh
    by_cases e19 : op = 19
    · subst e19
      rcases hx : memK.store m (lastP s.st 0) (lastP s.st 1 % 256) with ⟨m', ok⟩
      cases ok with
      | false => exact step_storeno W base g Ac cc code p f v1 v2 s m h hbase hs hlt hlen a m' hx hi hh
      | true => exact step_store W base g Ac cc code p f v1 v2 s m h hbase hs hlt hlen a m' hx hi hh
    by_cases e20 : op = 20
    · subst e20; exact step_jump W base g Ac cc code p f v1 v2 s m h hbase hs hlt hlen a hi hh
    by_cases e21 : op = 21
    · subst e21
      by_cases hx : lastP s.st 0 = 0
      · exact step_ifno W base g Ac cc code p f v1 v2 s m h hbase hs hlt hlen a hx hi hh
      · exact step_ifyes W base g Ac cc code p f v1 v2 s m h hbase hs hlt hlen a hx hi hh
    by_cases e22 : op = 22
    · subst e22
      by_cases hx : s.ca.length = 32
      · exact step_callno W base g Ac cc code p f v1 v2 s m h hbase hs hlt hlen a hx hi hh
      · exact step_call W base g Ac cc code p f v1 v2 s m h hbase hs hlt hlen a hx hi hh
    by_cases e23 : op = 23
    · subst e23
      by_cases hx : s.ca.length = 0
      · exact step_retno W base g Ac cc code p f v1 v2 s m h hbase hs hlt hlen a hx hi hh
      · exact step_ret W base g Ac cc code p f v1 v2 s m h hbase hs hlt hlen a hx hi hh
    by_cases e24 : op = 24
    · subst e24; exact step_trap W base g Ac cc code p f v1 v2 s m h hbase hs hlt hlen a hi hh
    by_cases e25 : op = 25
    · subst e25; exact step_halt W base g Ac cc code p f v1 v2 s m h hbase hs hlt hlen a hi hh
    rcases hx : bothP op (lastP s.st 1) (lastP s.st 0) with ⟨y, ok⟩
    cases ok with
    | false => exact step_bothno W base g Ac cc code p f v1 v2 s m h hbase hs hlt hlen op a e e3 e2 e4 e17 e18 e19 e20 e21 e22 e23 e24 e25 y hx hi hh
    | true => exact step_both W base g Ac cc code p f v1 v2 s m h hbase hs hlt hlen op a e e3 e2 e4 e17 e18 e19 e20 e21 e22 e23 e24 e25 y hx hi hh
end Go.Proofs.Ytkjdhhdkfbkgpaa.VmW
namespace Go.Proofs.Ytkjdhhdkfbkgpaa.VmW
open Go.RowKit Go.Proofs.YtkjdhhdkfbkgpaaW.PrintWords Go.Proofs.YtkjdhhdkfbkgpaaW.PrintMore Go.Proofs.YtkjdhhdkfbkgpaaW.PrintLast Go.Proofs.Ytkjdhhdkfbkgpaa.Pvm
set_option linter.unusedVariables false
set_option linter.unusedSimpArgs false
/-- What Run comes to: state, memory, kind, trap, used, errno. -/
structure Res where
  s : St
  m : Mem
  kind : Int
  trap : Int
  used : Int
  err : Int
def runAll (code : List In) (s : St) (m : Mem) (fuel : Int) : Res :=
  if (chkP code).1 ≠ 0 then ⟨⟨0, [], []⟩, m, 0, 0, 0, (chkP code).1⟩
  else if fuel < 0 ∨ 1048576 < fuel ∨ ¬ mayP s code.length then ⟨⟨0, [], []⟩, m, 0, 0, 0, 1⟩
  else ⟨(runP memK code fuel.toNat 0 s m).1, (runP memK code fuel.toNat 0 s m).2.1, (runP memK code fuel.toNat 0 s m).2.2.1, (runP memK code fuel.toNat 0 s m).2.2.2.1, (runP memK code fuel.toNat 0 s m).2.2.2.2, 0⟩
def stV (s : St) (A1 : Option Addr) (c1 : Nat) (A2 : Option Addr) (c2 : Nat) : Value := .agg #[.int .i64 s.pc, .slice A1 s.st.length c1, .slice A2 s.ca.length c2]
def RunPost (w : World) (p : Value) (f : Nat → Prop) (r : Res) (e : Ending) (w' : World) : Prop :=
  ∃ A1 c1 A2 c2 f', e = .returned (.tuple #[stV r.s A1 c1 A2 c2, .agg #[.int .i64 r.kind, .int .i64 r.trap, .int .i64 r.used], .int .i64 r.err]) ∧
    w'.ownsRow w.heap.size 3 1 (.slice A1 r.s.st.length c1) r.s.st.length (nums .i64 r.s.st) ∧ w'.ownsRow w.heap.size 3 1 (.slice A2 r.s.ca.length c2) r.s.ca.length (nums .i64 r.s.ca) ∧ NeRow (.slice A1 r.s.st.length c1) (.slice A2 r.s.ca.length c2) ∧
    MemP w' p f' r.m ∧ Mv w w' f ∧ (∀ k, f' k → f k ∨ w.heap.size ≤ k) ∧ (∀ k, f' k → (Value.slice A1 r.s.st.length c1).ownBlock ≠ some k ∧ (Value.slice A2 r.s.ca.length c2).ownBlock ≠ some k)
/-- A run's own: the machine, the boxes of what it returns. -/
structure RE (W : World) (g : Nat) (Ac : Option Addr) (cc : Nat) (code : List In) (p : Value) (f0 : Nat → Prop) (f : Nat → Prop) (v1 v2 : Value) (s : St) (m : Mem) (W' : World) : Prop where
  m : Mach W' (W.heap.size + 3) g Ac cc code p f v1 v2 s m
  mv : Mv W W' f0
  af : ∀ k, f k → f0 k ∨ W.heap.size + 3 ≤ k
  b8 : W'.heap[W.heap.size + 1]? = some (.cells #[.int .i64 0, .slice none 0 0, .slice none 0 0] 42 (0, 0))
  b9 : W'.heap[W.heap.size + 2]? = some (.cells #[.int .i64 0, .int .i64 0, .int .i64 0] 53 (0, 0))
section
variable {W W' W2 : World} {g : Nat} {Ac : Option Addr} {cc : Nat} {code : List In} {p : Value} {f0 f : Nat → Prop} {v1 v2 : Value} {s : St} {m : Mem}
theorem RE.step (h : RE W g Ac cc code p f0 f v1 v2 s m W') (hb : Below W'.heap.size W' W2) : RE W g Ac cc code p f0 f v1 v2 s m W2 :=
  ⟨h.m.step hb, h.mv.trans (Mv.of_below hb (fun _ => False)) (fun _ e => e.elim), h.af, (hb.block _ (blk_lt h.b8)).trans h.b8, (hb.block _ (blk_lt h.b9)).trans h.b9⟩
theorem RE.size (h : RE W g Ac cc code p f0 f v1 v2 s m W') : W.heap.size + 3 ≤ W'.heap.size := blk_lt h.b9
theorem RE.turn (h : RE W g Ac cc code p f0 f v1 v2 s m W') (hlt : ∀ k, f0 k → k < W.heap.size) {r : St × Mem × Int × Int} {e : Ending} (hp : StepPost W' (W.heap.size + 3) g Ac cc code p f v1 v2 r e W2) :
    ∃ f' B1 d1 B2 d2, e = .returned (.agg #[.int .i64 r.2.2.1, .int .i64 r.2.2.2, .int .i64 0]) ∧ RE W g Ac cc code p f0 f' (.slice B1 r.1.st.length d1) (.slice B2 r.1.ca.length d2) r.1 r.2.1 W2 := by
  obtain ⟨v1', v2', f', he, hm, hv, a1, a2, hf⟩ := hp
  obtain ⟨B1, d1, rfl⟩ := own_slice hm.stk
  obtain ⟨B2, d2, rfl⟩ := own_slice hm.cal
  have hs := h.size
  have hgb := h.m.gb
  have hmS : ∀ k, mS g v1 v2 f k → f0 k ∨ W.heap.size + 3 ≤ k := fun k e => by
    rcases e with e | e | e | e
    · exact .inr (by omega)
    · exact .inr (own_base h.m.stk k e)
    · exact .inr (own_base h.m.cal k e)
    · exact h.af k e
  refine ⟨f', B1, d1, B2, d2, he, hm, h.mv.trans hv (fun k e => (hmS k e).imp id (fun hle => by omega)), fun k e => (hf k e).elim (h.af k) (fun hle => .inr (by omega)), hv.blk h.b8 (fun e => ?_), hv.blk h.b9 (fun e => ?_)⟩
  · rcases hmS _ e with e | e
    · have := hlt _ e; omega
    · omega
  · rcases hmS _ e with e | e
    · have := hlt _ e; omega
    · omega
theorem RE.cells {B1 B2 : Option Addr} {d1 d2 n1 n2 : Nat} (h : RE W g Ac cc code p f0 f (.slice B1 n1 d1) (.slice B2 n2 d2) s m W') :
    W'.cell? ⟨g, 1, none⟩ = some (.int .i64 s.pc) ∧ W'.cell? ⟨g, 2, none⟩ = some (.slice B1 n1 d1) ∧ W'.cell? ⟨g, 3, none⟩ = some (.slice B2 n2 d2) ∧
    W'.cell? ⟨W.heap.size + 1, 0, none⟩ = some (.int .i64 0) ∧ W'.cell? ⟨W.heap.size + 1, 1, none⟩ = some (.slice none 0 0) ∧ W'.cell? ⟨W.heap.size + 1, 2, none⟩ = some (.slice none 0 0) ∧ W'.frozen? ⟨W.heap.size + 1, 0, none⟩ = false ∧ W'.frozen? ⟨W.heap.size + 1, 1, none⟩ = false ∧ W'.frozen? ⟨W.heap.size + 1, 2, none⟩ = false ∧
    W'.cell? ⟨W.heap.size + 2, 0, none⟩ = some (.int .i64 0) ∧ W'.cell? ⟨W.heap.size + 2, 1, none⟩ = some (.int .i64 0) ∧ W'.cell? ⟨W.heap.size + 2, 2, none⟩ = some (.int .i64 0) ∧ W'.frozen? ⟨W.heap.size + 2, 0, none⟩ = false ∧ W'.frozen? ⟨W.heap.size + 2, 1, none⟩ = false ∧ W'.frozen? ⟨W.heap.size + 2, 2, none⟩ = false :=
  ⟨blk_cell h.m.box 1, blk_cell h.m.box 2, blk_cell h.m.box 3, blk_cell h.b8 0, blk_cell h.b8 1, blk_cell h.b8 2, blk_frozen h.b8 0, blk_frozen h.b8 1, blk_frozen h.b8 2, blk_cell h.b9 0, blk_cell h.b9 1, blk_cell h.b9 2, blk_frozen h.b9 0, blk_frozen h.b9 1, blk_frozen h.b9 2⟩
/-- The world in which the results' boxes have been written. -/
def outW (W W' : World) (a b c x y z : Value) : World :=
  (((((W'.setCell ⟨W.heap.size + 1, 0, none⟩ a).setCell ⟨W.heap.size + 1, 1, none⟩ b).setCell ⟨W.heap.size + 1, 2, none⟩ c).setCell ⟨W.heap.size + 2, 0, none⟩ x).setCell ⟨W.heap.size + 2, 1, none⟩ y).setCell ⟨W.heap.size + 2, 2, none⟩ z
theorem RE.out (h : RE W g Ac cc code p f0 f v1 v2 s m W') (a b c x y z : Value) :
    (outW W W' a b c x y z).heap[W.heap.size + 1]? = some (.cells #[a, b, c] 42 (0, 0)) ∧ (outW W W' a b c x y z).heap[W.heap.size + 2]? = some (.cells #[x, y, z] 53 (0, 0)) := by
  have n1 : W.heap.size + 1 ≠ W.heap.size + 2 := by omega
  have h8 := blk_set (blk_set (blk_set h.b8 0 a) 1 b) 2 c
  have h9 := blk_far (blk_far (blk_far h.b9 (p := ⟨W.heap.size + 1, 0, none⟩) n1.symm a) (p := ⟨W.heap.size + 1, 1, none⟩) n1.symm b) (p := ⟨W.heap.size + 1, 2, none⟩) n1.symm c
  exact ⟨blk_far (blk_far (blk_far h8 (p := ⟨W.heap.size + 2, 0, none⟩) n1 x) (p := ⟨W.heap.size + 2, 1, none⟩) n1 y) (p := ⟨W.heap.size + 2, 2, none⟩) n1 z, blk_set (blk_set (blk_set h9 0 x) 1 y) 2 z⟩
theorem RE.done {B1 B2 : Option Addr} {d1 d2 : Nat} (h : RE W g Ac cc code p f0 f (.slice B1 s.st.length d1) (.slice B2 s.ca.length d2) s m W') (hlt : ∀ k, f0 k → k < W.heap.size) (a b c x y z : Value) (kind trap used err : Int) {e : Ending}
    (he : e = .returned (.tuple #[.agg #[.int .i64 s.pc, .slice B1 s.st.length d1, .slice B2 s.ca.length d2], .agg #[.int .i64 kind, .int .i64 trap, .int .i64 used], .int .i64 err])) : RunPost W p f0 ⟨s, m, kind, trap, used, err⟩ e (outW W W' a b c x y z) := by
  have hm : Mv W' (outW W W' a b c x y z) (fun k => k = W.heap.size + 1 ∨ k = W.heap.size + 2) :=
    ((((((Mv.refl W' (fun k => k = W.heap.size + 1 ∨ k = W.heap.size + 2)).set (p := ⟨W.heap.size + 1, 0, none⟩) (.inl (.inl rfl)) a).set (p := ⟨W.heap.size + 1, 1, none⟩) (.inl (.inl rfl)) b).set (p := ⟨W.heap.size + 1, 2, none⟩) (.inl (.inl rfl)) c).set (p := ⟨W.heap.size + 2, 0, none⟩) (.inl (.inr rfl)) x).set (p := ⟨W.heap.size + 2, 1, none⟩) (.inl (.inr rfl)) y).set (p := ⟨W.heap.size + 2, 2, none⟩) (.inl (.inr rfl)) z
  have hf : ∀ k, f k → ¬ (k = W.heap.size + 1 ∨ k = W.heap.size + 2) := fun k e e2 => by
    rcases h.af k e with e3 | e3
    · have := hlt k e3; omega
    · omega
  refine ⟨B1, d1, B2, d2, f, he, own_less (hm.own h.m.stk (fun k e e2 => by have := own_base h.m.stk k e; omega)) (by omega), own_less (hm.own h.m.cal (fun k e e2 => by have := own_base h.m.cal k e; omega)) (by omega), h.m.ne, h.m.mem.mv hm hf, h.mv.trans hm (fun k e => .inr (by omega)), fun k e => (h.af k e).imp id (fun hle => by omega), fun k e => (h.m.memf k e).2⟩
end
end Go.Proofs.Ytkjdhhdkfbkgpaa.VmW
namespace Go.Proofs.Ytkjdhhdkfbkgpaa.VmW
open Go.RowKit Go.Proofs.YtkjdhhdkfbkgpaaW.PrintWords Go.Proofs.YtkjdhhdkfbkgpaaW.PrintMore Go.Proofs.YtkjdhhdkfbkgpaaW.PrintLast Go.Proofs.Ytkjdhhdkfbkgpaa.Pvm
set_option linter.unusedVariables false
set_option linter.unusedSimpArgs false
/-- The boxes at a run's beginning. -/
structure R0 (W W' : World) (bx : Array Value) : Prop where
  below : Below W.heap.size W W'
  b0 : W'.heap[W.heap.size]? = some (.cells bx 42 (0, 0))
  b8 : W'.heap[W.heap.size + 1]? = some (.cells #[.int .i64 0, .slice none 0 0, .slice none 0 0] 42 (0, 0))
  b9 : W'.heap[W.heap.size + 2]? = some (.cells #[.int .i64 0, .int .i64 0, .int .i64 0] 53 (0, 0))
theorem R0.mk_ (W : World) (bx : Array Value) : R0 W (((W.alloc (.cells bx 42)).alloc (.cells #[.int .i64 0, .slice none 0 0, .slice none 0 0] 42)).alloc (.cells #[.int .i64 0, .int .i64 0, .int .i64 0] 53)) bx := by
  have e1 : (W.alloc (.cells bx 42)).heap.size = W.heap.size + 1 := by simp
  have e2 : ((W.alloc (.cells bx 42)).alloc (.cells #[.int .i64 0, .slice none 0 0, .slice none 0 0] 42)).heap.size = W.heap.size + 2 := by simp
  refine ⟨below_alloc (below_alloc (below_alloc (Below.refl _ _) _) _) _, ?_, ?_, ?_⟩
  · exact (heap_alloc_old _ _ (by simp; omega)).trans ((heap_alloc_old _ _ (by simp)).trans (heap_alloc_new W _))
  · rw [← e1]; exact (heap_alloc_old _ _ (by simp)).trans (heap_alloc_new (W.alloc _) _)
  · rw [← e2]; exact heap_alloc_new _ _
theorem R0.step {W W' W2 : World} {bx : Array Value} (h : R0 W W' bx) (hb : Below W'.heap.size W' W2) : R0 W W2 bx :=
  ⟨below_step h.below hb, (hb.block _ (blk_lt h.b0)).trans h.b0, (hb.block _ (blk_lt h.b8)).trans h.b8, (hb.block _ (blk_lt h.b9)).trans h.b9⟩
theorem R0.cells {W W' : World} {x y z : Value} (h : R0 W W' #[x, y, z]) :
    W'.cell? ⟨W.heap.size, 0, none⟩ = some x ∧ W'.cell? ⟨W.heap.size, 1, none⟩ = some y ∧ W'.cell? ⟨W.heap.size, 2, none⟩ = some z ∧
    W'.cell? ⟨W.heap.size + 1, 0, none⟩ = some (.int .i64 0) ∧ W'.cell? ⟨W.heap.size + 1, 1, none⟩ = some (.slice none 0 0) ∧ W'.cell? ⟨W.heap.size + 1, 2, none⟩ = some (.slice none 0 0) ∧ W'.frozen? ⟨W.heap.size + 1, 0, none⟩ = false ∧ W'.frozen? ⟨W.heap.size + 1, 1, none⟩ = false ∧ W'.frozen? ⟨W.heap.size + 1, 2, none⟩ = false ∧
    W'.cell? ⟨W.heap.size + 2, 0, none⟩ = some (.int .i64 0) ∧ W'.cell? ⟨W.heap.size + 2, 1, none⟩ = some (.int .i64 0) ∧ W'.cell? ⟨W.heap.size + 2, 2, none⟩ = some (.int .i64 0) ∧ W'.frozen? ⟨W.heap.size + 2, 0, none⟩ = false ∧ W'.frozen? ⟨W.heap.size + 2, 1, none⟩ = false ∧ W'.frozen? ⟨W.heap.size + 2, 2, none⟩ = false :=
  ⟨blk_cell h.b0 0, blk_cell h.b0 1, blk_cell h.b0 2, blk_cell h.b8 0, blk_cell h.b8 1, blk_cell h.b8 2, blk_frozen h.b8 0, blk_frozen h.b8 1, blk_frozen h.b8 2, blk_cell h.b9 0, blk_cell h.b9 1, blk_cell h.b9 2, blk_frozen h.b9 0, blk_frozen h.b9 1, blk_frozen h.b9 2⟩
theorem R0.out {W W' : World} {bx : Array Value} (h : R0 W W' bx) (a b c x y z : Value) :
    (outW W W' a b c x y z).heap[W.heap.size + 1]? = some (.cells #[a, b, c] 42 (0, 0)) ∧ (outW W W' a b c x y z).heap[W.heap.size + 2]? = some (.cells #[x, y, z] 53 (0, 0)) ∧ Below W.heap.size W (outW W W' a b c x y z) := by
  have n1 : W.heap.size + 1 ≠ W.heap.size + 2 := by omega
  have h8 := blk_set (blk_set (blk_set h.b8 0 a) 1 b) 2 c
  have h9 := blk_far (blk_far (blk_far h.b9 (p := ⟨W.heap.size + 1, 0, none⟩) n1.symm a) (p := ⟨W.heap.size + 1, 1, none⟩) n1.symm b) (p := ⟨W.heap.size + 1, 2, none⟩) n1.symm c
  refine ⟨blk_far (blk_far (blk_far h8 (p := ⟨W.heap.size + 2, 0, none⟩) n1 x) (p := ⟨W.heap.size + 2, 1, none⟩) n1 y) (p := ⟨W.heap.size + 2, 2, none⟩) n1 z, blk_set (blk_set (blk_set h9 0 x) 1 y) 2 z, ?_⟩
  exact (((((h.below.setCell (p := ⟨W.heap.size + 1, 0, none⟩) (by show W.heap.size ≤ W.heap.size + 1; omega) a).setCell (p := ⟨W.heap.size + 1, 1, none⟩) (by show W.heap.size ≤ W.heap.size + 1; omega) b).setCell (p := ⟨W.heap.size + 1, 2, none⟩) (by show W.heap.size ≤ W.heap.size + 1; omega) c).setCell (p := ⟨W.heap.size + 2, 0, none⟩) (by show W.heap.size ≤ W.heap.size + 2; omega) x).setCell (p := ⟨W.heap.size + 2, 1, none⟩) (by show W.heap.size ≤ W.heap.size + 2; omega) y).setCell (p := ⟨W.heap.size + 2, 2, none⟩) (by show W.heap.size ≤ W.heap.size + 2; omega) z
/-- Nothing is run. -/
theorem run_none {W W' : World} {p : Value} {f : Nat → Prop} {m : Mem} (hm : MemP W p f m) (hb : Below W.heap.size W W') (err : Int) : RunPost W p f ⟨⟨0, [], []⟩, m, 0, 0, 0, err⟩ (.returned (.tuple #[.agg #[.int .i64 0, .slice none 0 0, .slice none 0 0], .agg #[.int .i64 0, .int .i64 0, .int .i64 0], .int .i64 err])) W' :=
  ⟨none, 0, none, 0, f, rfl, own_nil _ _ _ _, own_nil _ _ _ _, ne_nil _, hm.mv (Mv.of_below hb (fun _ => False)) (fun _ _ e => e), Mv.of_below hb f, fun k e => .inl e, fun k _ => ⟨by simp [Value.ownBlock], by simp [Value.ownBlock]⟩⟩
def NonePost (W : World) (err : Int) (e : Ending) (W' : World) : Prop := e = .returned (.tuple #[.agg #[.int .i64 0, .slice none 0 0, .slice none 0 0], .agg #[.int .i64 0, .int .i64 0, .int .i64 0], .int .i64 err]) ∧ Below W.heap.size W W'
set_option maxHeartbeats 4000000 in
set_option maxRecDepth 100000 in
/-- The code may not be: whatever the memory is. -/
theorem run_code (W : World) (Ac : Option Addr) (cc : Nat) (code : List In) (hC : Kd.C kIn W Ac code.length code) (hcap : code.length ≤ cc) (x y z v : Value) (fuel : Int) (hne : (chkP code).1 ≠ 0) :
    Calls Try.prog 40 #[.slice Ac code.length cc, .agg #[x, y, z], v, .int .i64 fuel] W (NonePost W (chkP code).1) := by
  have hu := Try.underlying42
  have h0 := R0.mk_ W #[x, y, z]
  have HK := Aside0.mk (check_calls _ Ac cc code (Kd.C_below hC h0.below) hcap)
  have tn : ((chkP code).1 != 0) = true := by simpa using hne
  have H0 := Aside0.mk h0
  clear hC hcap h0 hne
  generalize chkP code = r at *
  go_enter Try.func40, Try.ntmps40
  go_wp2_with (go_at_call 25; (with_reducible refine HK.out.mono ?_); rintro e w1 ⟨rfl, hb⟩; have H1 := Aside0.mk (H0.out.step hb); clear hb; obtain ⟨a0, a1, a2, a3, a4, a5, a6, a7, a8, a9, b0, b1, b2, b3, b4⟩ := H1.out.cells)
  obtain ⟨o8, o9, ob⟩ := H1.out.out (.int .i64 0) (.slice none 0 0) (.slice none 0 0) (.int .i64 0) (.int .i64 0) (.int .i64 0)
  unfold outW at o8 o9 ob
  have e0 := blk_cell o8 0
  have e1 := blk_cell o8 1
  have e2 := blk_cell o8 2
  have e3 := blk_cell o9 0
  have e4 := blk_cell o9 1
  have e5 := blk_cell o9 2
  simp only [List.getElem?_toArray, List.getElem?_cons_zero, List.getElem?_cons_succ] at e0 e1 e2 e3 e4 e5
  exact bodyPost_ret (v := .tuple #[.agg #[.int .i64 0, .slice none 0 0, .slice none 0 0], .agg #[.int .i64 0, .int .i64 0, .int .i64 0], .int .i64 r.1]) (by simp [results, Try.results40, go_sem, e0, e1, e2, e3, e4, e5]) rfl ⟨rfl, ob⟩
end Go.Proofs.Ytkjdhhdkfbkgpaa.VmW
namespace Go.Proofs.Ytkjdhhdkfbkgpaa.VmW
open Go.RowKit Go.Proofs.YtkjdhhdkfbkgpaaW.PrintWords Go.Proofs.YtkjdhhdkfbkgpaaW.PrintMore Go.Proofs.YtkjdhhdkfbkgpaaW.PrintLast Go.Proofs.Ytkjdhhdkfbkgpaa.Pvm
set_option linter.unusedVariables false
set_option linter.unusedSimpArgs false
set_option maxHeartbeats 4000000 in
set_option maxRecDepth 100000 in
theorem run_arg (W : World) (Ac : Option Addr) (cc : Nat) (code : List In) (hC : Kd.C kIn W Ac code.length code) (hcap : code.length ≤ cc) (s : St) (A1 A2 : Option Addr) (c1 c2 : Nat) (h2 : Kd.C (Kd.int .i64) W A2 s.ca.length s.ca) (v : Value) (fuel : Int)
    (hc : chkP code = (0, 0)) (hv : v = .nilIface ∨ ∃ q, v = memI q ∧ (fuel < 0 ∨ 1048576 < fuel ∨ ¬ mayP s code.length)) :
    Calls Try.prog 40 #[.slice Ac code.length cc, stV s A1 c1 A2 c2, v, .int .i64 fuel] W (NonePost W 1) := by
  unfold stV
  have hu := Try.underlying42
  have h0 := R0.mk_ W #[.int .i64 s.pc, .slice A1 s.st.length c1, .slice A2 s.ca.length c2]
  have HK := Aside0.mk ((check_calls _ Ac cc code (Kd.C_below hC h0.below) hcap).mono (fun (e : Ending) (w' : World) (h : TwoPost _ (chkP code).1 (chkP code).2 e w') => (show TwoPost _ 0 0 e w' from by rw [hc] at h; exact h)))
  have H0 := Aside0.mk h0
  have HMY := Aside0.mk (fun (w : World) (hb : Below W.heap.size W w) => may_calls w s code.length A1 A2 c1 c2 (Kd.C_below h2 hb))
  have HC := Aside0.mk hc
  clear hC hcap h0 h2 hc
  rcases hv with rfl | ⟨q, rfl, hv⟩
  · go_enter Try.func40, Try.ntmps40
    go_wp2_with (go_at_call 25; (with_reducible refine HK.out.mono ?_); rintro e w1 ⟨rfl, hb⟩; have H1 := Aside0.mk (H0.out.step hb); clear hb; obtain ⟨a0, a1, a2, a3, a4, a5, a6, a7, a8, a9, b0, b1, b2, b3, b4⟩ := H1.out.cells)
    obtain ⟨o8, o9, ob⟩ := H1.out.out (.int .i64 0) (.slice none 0 0) (.slice none 0 0) (.int .i64 0) (.int .i64 0) (.int .i64 0)
    unfold outW at o8 o9 ob
    have e0 := blk_cell o8 0
    have e1 := blk_cell o8 1
    have e2 := blk_cell o8 2
    have e3 := blk_cell o9 0
    have e4 := blk_cell o9 1
    have e5 := blk_cell o9 2
    simp only [List.getElem?_toArray, List.getElem?_cons_zero, List.getElem?_cons_succ] at e0 e1 e2 e3 e4 e5
    exact bodyPost_ret (v := .tuple #[.agg #[.int .i64 0, .slice none 0 0, .slice none 0 0], .agg #[.int .i64 0, .int .i64 0, .int .i64 0], .int .i64 1]) (by simp [results, Try.results40, go_sem, e0, e1, e2, e3, e4, e5]) rfl ⟨rfl, ob⟩
  unfold memI
  by_cases g0 : fuel < 0
  · have t0 : decide (fuel < 0) = true := decide_eq_true g0
    clear hv g0
    go_enter Try.func40, Try.ntmps40
    go_wp2_with (go_at_call 25; (with_reducible refine HK.out.mono ?_); rintro e w1 ⟨rfl, hb⟩; have H1 := Aside0.mk (H0.out.step hb); clear hb; obtain ⟨a0, a1, a2, a3, a4, a5, a6, a7, a8, a9, b0, b1, b2, b3, b4⟩ := H1.out.cells)
    obtain ⟨o8, o9, ob⟩ := H1.out.out (.int .i64 0) (.slice none 0 0) (.slice none 0 0) (.int .i64 0) (.int .i64 0) (.int .i64 0)
    unfold outW at o8 o9 ob
    have e0 := blk_cell o8 0
    have e1 := blk_cell o8 1
    have e2 := blk_cell o8 2
    have e3 := blk_cell o9 0
    have e4 := blk_cell o9 1
    have e5 := blk_cell o9 2
    simp only [List.getElem?_toArray, List.getElem?_cons_zero, List.getElem?_cons_succ] at e0 e1 e2 e3 e4 e5
    exact bodyPost_ret (v := .tuple #[.agg #[.int .i64 0, .slice none 0 0, .slice none 0 0], .agg #[.int .i64 0, .int .i64 0, .int .i64 0], .int .i64 1]) (by simp [results, Try.results40, go_sem, e0, e1, e2, e3, e4, e5]) rfl ⟨rfl, ob⟩
  have t0 : decide (fuel < 0) = false := decide_eq_false g0
  by_cases g1 : 1048576 < fuel
  · have t1 : decide (fuel > 1048576) = true := decide_eq_true g1
    have t2 : decide (1048576 < fuel) = true := decide_eq_true g1
    clear hv g0 g1
    go_enter Try.func40, Try.ntmps40
    go_wp2_with (go_at_call 25; (with_reducible refine HK.out.mono ?_); rintro e w1 ⟨rfl, hb⟩; have H1 := Aside0.mk (H0.out.step hb); clear hb; obtain ⟨a0, a1, a2, a3, a4, a5, a6, a7, a8, a9, b0, b1, b2, b3, b4⟩ := H1.out.cells)
    obtain ⟨o8, o9, ob⟩ := H1.out.out (.int .i64 0) (.slice none 0 0) (.slice none 0 0) (.int .i64 0) (.int .i64 0) (.int .i64 0)
    unfold outW at o8 o9 ob
    have e0 := blk_cell o8 0
    have e1 := blk_cell o8 1
    have e2 := blk_cell o8 2
    have e3 := blk_cell o9 0
    have e4 := blk_cell o9 1
    have e5 := blk_cell o9 2
    simp only [List.getElem?_toArray, List.getElem?_cons_zero, List.getElem?_cons_succ] at e0 e1 e2 e3 e4 e5
    exact bodyPost_ret (v := .tuple #[.agg #[.int .i64 0, .slice none 0 0, .slice none 0 0], .agg #[.int .i64 0, .int .i64 0, .int .i64 0], .int .i64 1]) (by simp [results, Try.results40, go_sem, e0, e1, e2, e3, e4, e5]) rfl ⟨rfl, ob⟩
  have t1 : decide (fuel > 1048576) = false := decide_eq_false g1
  have t2 : decide (1048576 < fuel) = false := decide_eq_false g1
  have hm : ¬ mayP s code.length := (hv.resolve_left g0).resolve_left g1
  have HD := Aside0.mk (decide_eq_false hm)
  clear hv g0 g1 hm
  go_enter Try.func40, Try.ntmps40
  go_wp2_with (first
    | (go_at_call 25; (with_reducible refine HK.out.mono ?_); rintro e w1 ⟨rfl, hb⟩; have H1 := Aside0.mk (H0.out.step hb); clear hb; obtain ⟨a0, a1, a2, a3, a4, a5, a6, a7, a8, a9, b0, b1, b2, b3, b4⟩ := H1.out.cells)
    | (go_at_call 52; (with_reducible refine (HMY.out w1 H1.out.below).mono ?_); rintro e w2 ⟨he, hb⟩; rw [HD.out] at he; subst he; have H2 := Aside0.mk (H1.out.step hb); clear hb a0 a1 a2 a3 a4 a5 a6 a7 a8 a9 b0 b1 b2 b3 b4; obtain ⟨a0, a1, a2, a3, a4, a5, a6, a7, a8, a9, b0, b1, b2, b3, b4⟩ := H2.out.cells))
  obtain ⟨o8, o9, ob⟩ := H2.out.out (.int .i64 0) (.slice none 0 0) (.slice none 0 0) (.int .i64 0) (.int .i64 0) (.int .i64 0)
  unfold outW at o8 o9 ob
  have e0 := blk_cell o8 0
  have e1 := blk_cell o8 1
  have e2 := blk_cell o8 2
  have e3 := blk_cell o9 0
  have e4 := blk_cell o9 1
  have e5 := blk_cell o9 2
  simp only [List.getElem?_toArray, List.getElem?_cons_zero, List.getElem?_cons_succ] at e0 e1 e2 e3 e4 e5
  exact bodyPost_ret (v := .tuple #[.agg #[.int .i64 0, .slice none 0 0, .slice none 0 0], .agg #[.int .i64 0, .int .i64 0, .int .i64 0], .int .i64 1]) (by simp [results, Try.results40, go_sem, e0, e1, e2, e3, e4, e5]) rfl ⟨rfl, ob⟩
end Go.Proofs.Ytkjdhhdkfbkgpaa.VmW
namespace Go.Proofs.Ytkjdhhdkfbkgpaa.VmW
open Go.RowKit Go.Proofs.YtkjdhhdkfbkgpaaW.PrintWords Go.Proofs.YtkjdhhdkfbkgpaaW.PrintMore Go.Proofs.YtkjdhhdkfbkgpaaW.PrintLast Go.Proofs.Ytkjdhhdkfbkgpaa.Pvm
set_option linter.unusedVariables false
set_option linter.unusedSimpArgs false
/-- The machine, made of a copied state. -/
theorem RE.begin_ {W w2 w3 : World} {bx : Array Value} {Ac : Option Addr} {cc : Nat} {code : List In} {p : Value} {f : Nat → Prop} {s : St} {m : Mem} {B1 B2 : Option Addr} {d1 d2 : Nat} (h2 : R0 W w2 bx) (hC : Kd.C kIn W Ac code.length code) (hlt : ∀ ad, Ac = some ad → 0 < code.length → ¬ f ad.block) (hm : MemP W p f m)
    (ho1 : w3.ownsRow w2.heap.size 3 1 (.slice B1 s.st.length d1) s.st.length (nums .i64 s.st)) (ho2 : w3.ownsRow w2.heap.size 3 1 (.slice B2 s.ca.length d2) s.ca.length (nums .i64 s.ca)) (hne : NeRow (.slice B1 s.st.length d1) (.slice B2 s.ca.length d2)) (hb : Below w2.heap.size w2 w3) :
    RE W w3.heap.size Ac cc code p f f (.slice B1 s.st.length d1) (.slice B2 s.ca.length d2) s m (w3.alloc (.cells #[.slice Ac code.length cc, .int .i64 s.pc, .slice B1 s.st.length d1, .slice B2 s.ca.length d2, memI p] 114)) := by
  have h3 := h2.step hb
  have hz : W.heap.size + 3 ≤ w2.heap.size := blk_lt h2.b9
  have hz3 : w2.heap.size ≤ w3.heap.size := hb.size
  have hb3 := below_alloc (Below.refl w3.heap.size w3) (.cells #[.slice Ac code.length cc, .int .i64 s.pc, .slice B1 s.st.length d1, .slice B2 s.ca.length d2, memI p] 114)
  have h4 := h3.step hb3
  have hfl := hm.lt
  refine ⟨⟨heap_alloc_new w3 _, Kd.C_below hC h4.below, fun ad e hp => ⟨?_, hlt ad e hp⟩, by omega, own_less (own_alloc ho1 _) (by omega), own_less (own_alloc ho2 _) (by omega), hne, hm.mv (Mv.of_below h4.below (fun _ => False)) (fun _ _ e => e), fun k hk => ⟨?_, fun e => ?_, fun e => ?_⟩⟩, Mv.of_below h4.below f, fun k e => .inl e, h4.b8, h4.b9⟩
  · obtain ⟨b, o, e2, hb, _⟩ := code_at hC hp
    rw [e] at e2
    have := congrArg Addr.block (Option.some.inj e2)
    simp only at this
    omega
  · have := hfl k hk; omega
  · have := own_base ho1 k e; have := hfl k hk; omega
  · have := own_base ho2 k e; have := hfl k hk; omega
theorem drew_cell (w : World) (a : Addr) : w.drew.cell? a = w.cell? a := rfl
def LR (W : World) (g : Nat) (Ac : Option Addr) (cc : Nat) (code : List In) (p : Value) (f : Nat → Prop) (F : Nat) (s0 : St) (m0 : Mem) (k : Nat) (wr : World) : Prop :=
  ∃ f' B1 d1 B2 d2 s m, RE W g Ac cc code p f f' (.slice B1 s.st.length d1) (.slice B2 s.ca.length d2) s m wr ∧ mayP s code.length ∧ runP memK code F 0 s0 m0 = runP memK code (F - k) k s m
set_option maxHeartbeats 8000000 in
set_option maxRecDepth 100000 in
theorem run_go (W : World) (Ac : Option Addr) (cc : Nat) (code : List In) (hC : Kd.C kIn W Ac code.length code) (hcap : code.length ≤ cc) (s : St) (A1 A2 : Option Addr) (c1 c2 : Nat) (h1 : Kd.C (Kd.int .i64) W A1 s.st.length s.st) (h2 : Kd.C (Kd.int .i64) W A2 s.ca.length s.ca)
    (p : Value) (f : Nat → Prop) (m : Mem) (hm : MemP W p f m) (hfar : ∀ ad, Ac = some ad → 0 < code.length → ¬ f ad.block) (F : Nat) (hF : F ≤ 1048576) (hc : chkP code = (0, 0)) (hs : mayP s code.length) :
    Calls Try.prog 40 #[.slice Ac code.length cc, stV s A1 c1 A2 c2, memI p, .int .i64 (F : Int)] W (RunPost W p f ⟨(runP memK code F 0 s m).1, (runP memK code F 0 s m).2.1, (runP memK code F 0 s m).2.2.1, (runP memK code F 0 s m).2.2.2.1, (runP memK code F 0 s m).2.2.2.2, 0⟩) := by
  unfold stV memI
  have hu := Try.underlying42
  have h0 := R0.mk_ W #[.int .i64 s.pc, .slice A1 s.st.length c1, .slice A2 s.ca.length c2]
  have HK := Aside0.mk ((check_calls _ Ac cc code (Kd.C_below hC h0.below) hcap).mono (fun (e : Ending) (w' : World) (h : TwoPost _ (chkP code).1 (chkP code).2 e w') => (show TwoPost _ 0 0 e w' from by rw [hc] at h; exact h)))
  have H0 := Aside0.mk h0
  have HMY := Aside0.mk (fun (w : World) (hb : Below W.heap.size W w) => may_calls w s code.length A1 A2 c1 c2 (Kd.C_below h2 hb))
  have HCP := Aside0.mk (fun (w : World) (hb : Below W.heap.size W w) => copied_calls w s A1 A2 c1 c2 (Kd.C_below h1 hb) (Kd.C_below h2 hb) (by have := hs.2.2.1; omega) (by have := hs.2.2.2.1; omega))
  have HBG := Aside0.mk (fun (w2 w3 : World) B1 B2 d1 d2 h2 ho1 ho2 hne hb => RE.begin_ (W := W) (w2 := w2) (w3 := w3) (bx := #[.int .i64 s.pc, .slice A1 s.st.length c1, .slice A2 s.ca.length c2]) (cc := cc) (p := p) (f := f) (s := s) (m := m) (B1 := B1) (B2 := B2) (d1 := d1) (d2 := d2) h2 hC hfar hm ho1 ho2 hne hb)
  have hok := chkP_ok.1 (show (chkP code).1 = 0 by rw [hc])
  have HOK := Aside0.mk hok
  have HS := Aside0.mk hs
  have HLT := Aside0.mk hm.lt
  have HF := Aside0.mk hF
  have hF0 : (0 : Int) ≤ (F : Int) := by omega
  have hF1 : (F : Int) ≤ 1048576 := by omega
  have t0 : decide ((F : Int) < 0) = false := decide_eq_false (by omega)
  have t1 : decide ((F : Int) > 1048576) = false := decide_eq_false (by omega)
  have t2 : decide (1048576 < (F : Int)) = false := decide_eq_false (by omega)
  have HD := Aside0.mk (decide_eq_true hs)
  clear hC hcap h0 h1 h2 hc hm hfar hok hs hF
  go_enter Try.func40, Try.ntmps40
  go_wp2_with (first
    | (go_at_call 25; (with_reducible refine HK.out.mono ?_); rintro e w1 ⟨rfl, hb⟩; have H1 := Aside0.mk (H0.out.step hb); clear hb; obtain ⟨a0, a1, a2, a3, a4, a5, a6, a7, a8, a9, b0, b1, b2, b3, b4⟩ := H1.out.cells)
    | (go_at_call 52; (with_reducible refine (HMY.out w1 H1.out.below).mono ?_); rintro e w2 ⟨he, hb⟩; rw [HD.out] at he; subst he; have H2 := Aside0.mk (H1.out.step hb); clear hb a0 a1 a2 a3 a4 a5 a6 a7 a8 a9 b0 b1 b2 b3 b4; obtain ⟨a0, a1, a2, a3, a4, a5, a6, a7, a8, a9, b0, b1, b2, b3, b4⟩ := H2.out.cells)
    | (go_at_call 53; (with_reducible refine (HCP.out w2 H2.out.below).mono ?_); rintro e w3 ⟨B1, d1, B2, d2, rfl, ho1, ho2, hne, hb⟩; have HRE := Aside0.mk (HBG.out w2 w3 B1 B2 d1 d2 H2.out ho1 ho2 hne hb); clear ho1 ho2 hne hb a0 a1 a2 a3 a4 a5 a6 a7 a8 a9 b0 b1 b2 b3 b4))
  clear HK H0 HMY HCP HBG HD H1 H2 t0 t1 t2
  go_loopw [14] (fun u wr => ∃ k : Nat, k ≤ F ∧ u = .int .i64 ((k : Int) + 1) ∧ Aside0 (LR W w3.heap.size Ac cc code p f F s m k wr)) (fun u _ => F + 1 - (intOf u).toNat)
  case atStart => exact ⟨0, Nat.zero_le _, rfl, ⟨⟨f, B1, d1, B2, d2, s, m, HRE.out, HS.out, rfl⟩⟩⟩
  case round =>
    obtain ⟨k, hk, rfl, HLR⟩ := hrel
    obtain ⟨f', D1, d3, D2, d4, s', m', hre, hmay, hrun⟩ := HLR.out
    have HR' := Aside0.mk hre
    have HRN := Aside0.mk hrun
    have hkF : (k : Int) + 1 ≤ 1048577 := by omega
    have hk0 : (0 : Int) ≤ (k : Int) + 1 := by omega
    have HKF := Aside0.mk hk
    clear HRE HLR hrun hk
    by_cases hlt : k < F
    · have tk : decide ((k : Int) + 1 ≤ (F : Int)) = true := decide_eq_true (by omega)
      have hst := step_calls wr (W.heap.size + 3) w3.heap.size Ac cc code p f' _ _ s' m' hre.m hre.size hmay HOK.out.2.2 HOK.out.2.1
      have HST := Aside0.mk hst
      have HM4 := Aside0.mk (stepP_may memK (m := m') hmay HOK.out.2.2)
      have HLK := Aside0.mk hlt
      have HU := Aside0.mk (show runP memK code (F - k) k s' m' = if (stepP memK code s' m').2.2.1 = 0 then runP memK code (F - (k + 1)) (k + 1) (stepP memK code s' m').1 (stepP memK code s' m').2.1 else ((stepP memK code s' m').1, (stepP memK code s' m').2.1, (stepP memK code s' m').2.2.1, (stepP memK code s' m').2.2.2, ((k + 1 : Nat) : Int)) from by
        rw [show F - k = (F - (k + 1)) + 1 by omega]; rfl)
      clear hre hst hmay hlt
      generalize stepP memK code s' m' = r at *
      by_cases hz : r.2.2.1 = 0
      · have tz : (r.2.2.1 != 0) = false := by simpa using hz
        have HU2 := Aside0.mk (HU.out.trans (if_pos hz))
        clear hz HU
        go_wp2_with (go_at_call 54; (with_reducible refine HST.out.mono ?_); rintro e w4 hp; obtain ⟨f4, E1, e1_, E2, e2_, rfl, hre4⟩ := HR'.out.turn HLT.out hp; have HR4 := Aside0.mk hre4; clear hp hre4)
        go_roundw
        case rel => exact ⟨k + 1, by have := HLK.out; omega, by go_num, ⟨⟨f4, E1, e1_, E2, e2_, r.1, r.2.1, HR4.out.step (below_alloc (Below.refl _ _) _), HM4.out, HRN.out.trans HU2.out⟩⟩⟩
        case measure => have := HLK.out; simp [intOf]; omega
      · have tz : (r.2.2.1 != 0) = true := by simpa using hz
        have HU2 := Aside0.mk ((HU.out.trans (if_neg hz)).trans (show _ = (r.1, r.2.1, r.2.2.1, r.2.2.2, (k : Int) + 1) from rfl))
        clear hz HU
        go_wp2_with (go_at_call 54; (with_reducible refine HST.out.mono ?_); rintro e w4 hp; obtain ⟨f4, E1, e1_, E2, e2_, rfl, hre4⟩ := HR'.out.turn HLT.out hp; have HR4 := Aside0.mk hre4; clear hp hre4)
        have x9 := heap_alloc_new w4 (.cells #[.int .i64 r.2.2.1, .int .i64 r.2.2.2, .int .i64 ((k : Int) + 1)] 53)
        have HR5 := Aside0.mk (HR4.out.step (below_alloc (Below.refl _ _) (.cells #[.int .i64 r.2.2.1, .int .i64 r.2.2.2, .int .i64 ((k : Int) + 1)] 53)))
        generalize w4.alloc (.cells #[.int .i64 r.2.2.1, .int .i64 r.2.2.2, .int .i64 ((k : Int) + 1)] 53) = w5 at *
        obtain ⟨a1, a2, a3, a4, a5, a6, a7, a8, a9, b0, b1, b2, b3, b4, b5⟩ := HR5.out.cells
        have q0 := blk_cell x9 0
        have q1 := blk_cell x9 1
        have q2 := blk_cell x9 2
        have z3 : w3.heap.size ≠ W.heap.size + 1 := by have := HR5.out.m.gb; omega
        have z4 : w4.heap.size ≠ W.heap.size + 1 := by have := HR4.out.size; omega
        clear x9
        refine start_ (n := 8) (S := fun w' => w'.cell? ⟨w3.heap.size, 1, none⟩ = some (.int .i64 r.1.pc) ∧ w'.cell? ⟨w3.heap.size, 2, none⟩ = some (.slice E1 r.1.st.length e1_) ∧ w'.cell? ⟨w3.heap.size, 3, none⟩ = some (.slice E2 r.1.ca.length e2_) ∧ w'.cell? ⟨w4.heap.size, 0, none⟩ = some (.int .i64 r.2.2.1) ∧ w'.cell? ⟨w4.heap.size, 1, none⟩ = some (.int .i64 r.2.2.2) ∧ w'.cell? ⟨w4.heap.size, 2, none⟩ = some (.int .i64 ((k : Int) + 1))) (ds := [6]) #[false, false, false, false, false, false, false, false] (by kernel_rfl) rfl rfl ⟨a1, a2, a3, q0, q1, q2⟩ (fun hHeld => ?_)
        refine pure_ (i := 0) (N := some 63) (v := ?_) (a' := ?_) #[true, false, false, false, false, false, false, false] rfl rfl (by kernel_rfl) (fun _ _ _ h => h) (Or.inl ⟨by rfl, ?_⟩) ?_ ?_
        rotate_left
        · intro w'
          go_simp
          with_reducible rfl
        rotate_left
        · simp only [Act.put, List.setIfInBounds_toArray, List.set_cons_zero, List.set_cons_succ, i64_w, i32_w]
          rfl
        refine pure_ (i := 1) (N := some 64) (v := ?_) (a' := ?_) #[true, true, false, false, false, false, false, false] rfl rfl (by kernel_rfl) (fun _ _ _ h => h) (Or.inl ⟨by rfl, ?_⟩) ?_ ?_
        rotate_left
        · intro w'
          go_simp
          with_reducible rfl
        rotate_left
        · simp only [Act.put, List.setIfInBounds_toArray, List.set_cons_zero, List.set_cons_succ, i64_w, i32_w]
          rfl
        refine pure_ (i := 2) (N := some 65) (v := ?_) (a' := ?_) #[true, true, true, false, false, false, false, false] rfl rfl (by kernel_rfl) (fun _ _ _ h => h) (Or.inl ⟨by rfl, ?_⟩) ?_ ?_
        rotate_left
        · intro w'
          go_simp
          with_reducible rfl
        rotate_left
        · simp only [Act.put, List.setIfInBounds_toArray, List.set_cons_zero, List.set_cons_succ, i64_w, i32_w]
          rfl
        refine take_ (i := 3) (N := some 66) (v := ?_) (a' := ?_) #[true, true, true, true, false, false, false, false] rfl rfl (by kernel_rfl) (fun _ _ _ h => h) (Or.inl ⟨by rfl, ?_⟩) hHeld ?_ ?_
        rotate_left
        · rintro w' ⟨s0, s1, s2, s3, s4, s5⟩
          go_simp
          with_reducible rfl
        rotate_left
        · simp only [Act.put, List.setIfInBounds_toArray, List.set_cons_zero, List.set_cons_succ, i64_w, i32_w]
          rfl
        refine take_ (i := 4) (N := some 67) (v := ?_) (a' := ?_) #[true, true, true, true, true, false, false, false] rfl rfl (by kernel_rfl) (fun _ _ _ h => h) (Or.inl ⟨by rfl, ?_⟩) hHeld ?_ ?_
        rotate_left
        · rintro w' ⟨s0, s1, s2, s3, s4, s5⟩
          go_simp
          with_reducible rfl
        rotate_left
        · simp only [Act.put, List.setIfInBounds_toArray, List.set_cons_zero, List.set_cons_succ, i64_w, i32_w]
          rfl
        refine one_ (i := 5) (N := none) #[true, true, true, true, true, true, false, false] rfl rfl (by kernel_rfl) (by decide) (fun K hK => ?_)
        refine skip_ (w1 := ?_) (by rfl) rfl ?_ ?_
        rotate_left
        · go_simp
          rfl
        refine hK.out _ _ ⟨(by rw [drew_cell, cell_far (by exact z3), cell_far (by exact z3), cell_far (by exact z3)]; exact a1), (by rw [drew_cell, cell_far (by exact z3), cell_far (by exact z3), cell_far (by exact z3)]; exact a2), (by rw [drew_cell, cell_far (by exact z3), cell_far (by exact z3), cell_far (by exact z3)]; exact a3), (by rw [drew_cell, cell_far (by exact z4), cell_far (by exact z4), cell_far (by exact z4)]; exact q0), (by rw [drew_cell, cell_far (by exact z4), cell_far (by exact z4), cell_far (by exact z4)]; exact q1), (by rw [drew_cell, cell_far (by exact z4), cell_far (by exact z4), cell_far (by exact z4)]; exact q2)⟩ (fun hHeld => ?_)
        clear hK K
        refine last_ (i := 6) (N := none) #[true, true, true, true, true, true, true, false] rfl rfl (by kernel_rfl) (by decide) (fun K hK => ?_)
        refine skip_ (w1 := ?_) (by rfl) rfl ?_ ?_
        rotate_left
        · go_simp
          rfl
        refine hK.out _ _ ?_
        clear hK K
        refine pure_ (i := 7) (N := some 10) (v := ?_) (a' := ?_) #[true, true, true, true, true, true, true, true] rfl rfl (by kernel_rfl) (fun _ _ _ h => h) (Or.inl ⟨by rfl, ?_⟩) ?_ ?_
        rotate_left
        · intro w'
          go_simp
          with_reducible rfl
        rotate_left
        · simp only [Act.put, List.setIfInBounds_toArray, List.set_cons_zero, List.set_cons_succ, i64_w, i32_w]
          rfl
        refine done_ (by kernel_rfl) ?_

        go_wp2
        have HR6 := Aside0.mk (HR5.out.step (below_drew (Below.refl _ _)))
        obtain ⟨o8, o9⟩ := HR6.out.out (.int .i64 r.1.pc) (.slice E1 r.1.st.length e1_) (.slice E2 r.1.ca.length e2_) (.int .i64 r.2.2.1) (.int .i64 r.2.2.2) (.int .i64 ((k : Int) + 1))
        unfold outW at o8 o9
        simp only [World.setCell_drew] at o8 o9
        have e0 := blk_cell o8 0
        have e1 := blk_cell o8 1
        have e2 := blk_cell o8 2
        have e3 := blk_cell o9 0
        have e4 := blk_cell o9 1
        have e5 := blk_cell o9 2
        simp only [List.getElem?_toArray, List.getElem?_cons_zero, List.getElem?_cons_succ] at e0 e1 e2 e3 e4 e5
        rw [HRN.out, HU2.out]
        have hd := HR6.out.done HLT.out (.int .i64 r.1.pc) (.slice E1 r.1.st.length e1_) (.slice E2 r.1.ca.length e2_) (.int .i64 r.2.2.1) (.int .i64 r.2.2.2) (.int .i64 ((k : Int) + 1)) r.2.2.1 r.2.2.2 ((k : Int) + 1) 0 rfl
        unfold outW at hd
        simp only [World.setCell_drew] at hd
        exact bodyPost_ret (v := .tuple #[.agg #[.int .i64 r.1.pc, .slice E1 r.1.st.length e1_, .slice E2 r.1.ca.length e2_], .agg #[.int .i64 r.2.2.1, .int .i64 r.2.2.2, .int .i64 ((k : Int) + 1)], .int .i64 0]) (by simp [results, Try.results40, go_sem, e0, e1, e2, e3, e4, e5]) rfl hd
    · obtain rfl : k = F := by have := HKF.out; omega
      have tk : decide ((k : Int) + 1 ≤ (k : Int)) = false := decide_eq_false (by omega)
      obtain ⟨a1, a2, a3, a4, a5, a6, a7, a8, a9, b0, b1, b2, b3, b4, b5⟩ := hre.cells
      have HU := Aside0.mk (show runP memK code (k - k) k s' m' = (s', m', 1, 0, (k : Int)) from by rw [Nat.sub_self]; rfl)
      clear hre hmay hlt
      go_wp2
      obtain ⟨o8, o9⟩ := HR'.out.out (.int .i64 s'.pc) (.slice D1 s'.st.length d3) (.slice D2 s'.ca.length d4) (.int .i64 1) (.int .i64 0) (.int .i64 (k : Int))
      unfold outW at o8 o9
      have e0 := blk_cell o8 0
      have e1 := blk_cell o8 1
      have e2 := blk_cell o8 2
      have e3 := blk_cell o9 0
      have e4 := blk_cell o9 1
      have e5 := blk_cell o9 2
      simp only [List.getElem?_toArray, List.getElem?_cons_zero, List.getElem?_cons_succ] at e0 e1 e2 e3 e4 e5
      rw [HRN.out, HU.out]
      have hd := HR'.out.done HLT.out (.int .i64 s'.pc) (.slice D1 s'.st.length d3) (.slice D2 s'.ca.length d4) (.int .i64 1) (.int .i64 0) (.int .i64 (k : Int)) 1 0 (k : Int) 0 rfl
      unfold outW at hd
      exact bodyPost_ret (v := .tuple #[.agg #[.int .i64 s'.pc, .slice D1 s'.st.length d3, .slice D2 s'.ca.length d4], .agg #[.int .i64 1, .int .i64 0, .int .i64 (k : Int)], .int .i64 0]) (by simp [results, Try.results40, go_sem, e0, e1, e2, e3, e4, e5]) rfl hd
end Go.Proofs.Ytkjdhhdkfbkgpaa.VmW
namespace Go.Proofs.Ytkjdhhdkfbkgpaa.VmW
open Go.RowKit Go.Proofs.YtkjdhhdkfbkgpaaW.PrintWords Go.Proofs.YtkjdhhdkfbkgpaaW.PrintMore Go.Proofs.YtkjdhhdkfbkgpaaW.PrintLast Go.Proofs.Ytkjdhhdkfbkgpaa.Pvm
set_option linter.unusedVariables false
set_option linter.unusedSimpArgs false
theorem chk_snd {code : List In} (h : (chkP code).1 = 0) : chkP code = (0, 0) := by
  have : ∀ (n : Nat) (l : List In) (k : Nat), (chkL code n l k).1 = 0 → chkL code n l k = (0, 0) := by
    intro n l
    induction l with
    | nil => intro k _; rfl
    | cons i l ih =>
      intro k h
      unfold chkL at h ⊢
      split
      · rename_i h2; rw [if_pos h2] at h; exact ih _ h
      · rename_i h2; rw [if_neg h2] at h; simp at h
  unfold chkP at h ⊢
  split
  · rename_i h2; rw [if_pos h2] at h; simp at h
  · rename_i h2; rw [if_neg h2] at h; exact this _ _ _ h
theorem none_run {W : World} {p : Value} {f : Nat → Prop} {m : Mem} (hm : MemP W p f m) {err : Int} {e : Ending} {W' : World} (h : NonePost W err e W') : RunPost W p f ⟨⟨0, [], []⟩, m, 0, 0, 0, err⟩ e W' := by
  obtain ⟨rfl, hb⟩ := h
  exact run_none hm hb err
theorem run_calls (W : World) (Ac : Option Addr) (cc : Nat) (code : List In) (hC : Kd.C kIn W Ac code.length code) (hcap : code.length ≤ cc) (s : St) (A1 A2 : Option Addr) (c1 c2 : Nat) (h1 : Kd.C (Kd.int .i64) W A1 s.st.length s.st) (h2 : Kd.C (Kd.int .i64) W A2 s.ca.length s.ca)
    (p : Value) (f : Nat → Prop) (m : Mem) (hm : MemP W p f m) (hfar : ∀ ad, Ac = some ad → 0 < code.length → ¬ f ad.block) (fuel : Int) :
    Calls Try.prog 40 #[.slice Ac code.length cc, stV s A1 c1 A2 c2, memI p, .int .i64 fuel] W (RunPost W p f (runAll code s m fuel)) := by
  unfold runAll
  by_cases hc : (chkP code).1 = 0
  · rw [if_neg (by simpa using hc)]
    by_cases hv : fuel < 0 ∨ 1048576 < fuel ∨ ¬ mayP s code.length
    · rw [if_pos hv]
      exact (run_arg W Ac cc code hC hcap s A1 A2 c1 c2 h2 (memI p) fuel (chk_snd hc) (.inr ⟨p, rfl, hv⟩)).mono fun _ _ h => none_run hm h
    · rw [if_neg hv]
      have hs : mayP s code.length := Classical.not_not.1 fun h => hv (.inr (.inr h))
      have e : fuel = ((fuel.toNat : Nat) : Int) := by omega
      have := run_go W Ac cc code hC hcap s A1 A2 c1 c2 h1 h2 p f m hm hfar fuel.toNat (by omega) (chk_snd hc) hs
      rwa [← e] at this
  · rw [if_pos hc]
    exact (run_code W Ac cc code hC hcap _ _ _ _ fuel hc).mono fun _ _ h => none_run hm h
theorem run_nil (W : World) (Ac : Option Addr) (cc : Nat) (code : List In) (hC : Kd.C kIn W Ac code.length code) (hcap : code.length ≤ cc) (s : St) (A1 A2 : Option Addr) (c1 c2 : Nat) (h2 : Kd.C (Kd.int .i64) W A2 s.ca.length s.ca) (fuel : Int) :
    Calls Try.prog 40 #[.slice Ac code.length cc, stV s A1 c1 A2 c2, .nilIface, .int .i64 fuel] W (NonePost W (if (chkP code).1 = 0 then 1 else (chkP code).1)) := by
  by_cases hc : (chkP code).1 = 0
  · rw [if_pos hc]; exact run_arg W Ac cc code hC hcap s A1 A2 c1 c2 h2 .nilIface fuel (chk_snd hc) (.inl rfl)
  · rw [if_neg hc]; exact run_code W Ac cc code hC hcap _ _ _ _ fuel hc
/-- A literal code in memory. -/
def inCells (l : List In) : List Value := l.flatMap fun i => [.int .i64 i.f0, .int .i64 i.f1]
theorem inCells_get (l : List In) (j : Nat) (hj : j < l.length) : (inCells l)[j * 2]? = some (.int .i64 l[j].f0) ∧ (inCells l)[j * 2 + 1]? = some (.int .i64 l[j].f1) := by
  induction l generalizing j with
  | nil => simp at hj
  | cons i l ih =>
    cases j with
    | zero => exact ⟨rfl, rfl⟩
    | succ j =>
      have := ih j (by simpa using hj)
      have e1 : (j + 1) * 2 = j * 2 + 2 := by omega
      rw [e1]
      exact this
theorem code_lit (W : World) (l : List In) (cs : Array Value) (hcs : cs = (inCells l).toArray) (hl : l.length ≤ 1024) : Kd.C kIn (W.alloc (.cells cs 27)) (some ⟨W.heap.size, 0, none⟩) l.length l := by
  subst hcs
  refine ⟨rfl, by omega, fun hp => ⟨_, rfl, fun j i hj => ?_⟩⟩
  obtain ⟨hjl, e⟩ := List.getElem?_eq_some_iff.1 hj
  subst e
  refine ⟨[.int .i64 l[j].f0, .int .i64 l[j].f1], rfl, k27_mk _ _, fun q u hq => ?_⟩
  have hx := heap_alloc_new W (.cells (inCells l).toArray 27)
  rw [add_plain]
  have h2 := inCells_get l j hjl
  have : (W.alloc (.cells (inCells l).toArray 27)).cell? ⟨W.heap.size, j * 2 + q, none⟩ = (inCells l)[j * 2 + q]? := by
    rw [blk_cell hx]; simp
  show (W.alloc _).cell? ⟨W.heap.size, j * 2 + q, none⟩ = some u
  rw [this]
  match q, hq with
  | 0, hq => rw [← hq]; exact h2.1
  | 1, hq => rw [← hq]; exact h2.2
  | q + 2, hq => simp at hq
def sumL : List In := [⟨1, 2⟩, ⟨1, 3⟩, ⟨5, 0⟩, ⟨25, 0⟩]
def SumPost (W : World) (e : Ending) (W' : World) : Prop := e = .returned (.slice (some ⟨W.heap.size, 0, none⟩) 4 4) ∧ Kd.C kIn W' (some ⟨W.heap.size, 0, none⟩) sumL.length sumL ∧ Below W.heap.size W W'
end Go.Proofs.Ytkjdhhdkfbkgpaa.VmW
namespace Go.Proofs.Ytkjdhhdkfbkgpaa.VmW
open Go.RowKit Go.Proofs.YtkjdhhdkfbkgpaaW.PrintWords Go.Proofs.YtkjdhhdkfbkgpaaW.PrintMore Go.Proofs.YtkjdhhdkfbkgpaaW.PrintLast Go.Proofs.Ytkjdhhdkfbkgpaa.Pvm
set_option linter.unusedVariables false
set_option linter.unusedSimpArgs false
theorem same_l0 (x y : List Int) (h : x.length = y.length) (hs : x.length ≤ 4611686018427387904) (i k : Nat) (hk : i + k = x.length) : cloisterref01_Same.l0 (k + 1) x y (i : Int) = some (decide (x.drop i = y.drop i)) := by
  induction k generalizing i with
  | zero =>
    unfold cloisterref01_Same.l0
    rw [if_neg (by omega), List.drop_of_length_le (by omega), List.drop_of_length_le (by omega)]
    simp
  | succ k ih =>
    unfold cloisterref01_Same.l0
    have hx : i < x.length := by omega
    have hy : i < y.length := by omega
    have r1 : rd x (i : Int) = x[i] := by simp [rd, List.getD_eq_getElem?_getD, List.getElem?_eq_getElem hx]
    have r2 : rd y (i : Int) = y[i] := by simp [rd, List.getD_eq_getElem?_getD, List.getElem?_eq_getElem hy]
    have hw : wrap64 ((i : Int) + 1) = ((i + 1 : Nat) : Int) := by unfold wrap64; omega
    rw [if_pos (by omega), if_pos (by omega), if_pos (by omega), r1, r2, hw, List.drop_eq_getElem_cons hx, List.drop_eq_getElem_cons hy]
    by_cases he : x[i] = y[i]
    · rw [if_pos he, ih (i + 1) (by omega), he]
      simp only [List.cons.injEq, true_and]
    · rw [if_neg he]
      simp only [List.cons.injEq, he, false_and, decide_false]
theorem same_f (x y : List Int) (hs : x.length ≤ 4611686018427387904) : cloisterref01_Same.f (x.length + 1) x y = some (decide (x = y)) := by
  unfold cloisterref01_Same.f
  by_cases h : x.length = y.length
  · rw [if_pos (by omega)]
    have := same_l0 x y h hs 0 x.length (by omega)
    simpa using this
  · rw [if_neg (by omega)]
    have : x ≠ y := fun e => h (by rw [e])
    simp [this]
theorem same_calls (A0 : Option Addr) (c0 : Nat) (x : List Int) (A1 : Option Addr) (c1 : Nat) (y : List Int) (w : World) (h0 : Kd.C (Kd.int .i64) w A0 x.length x) (hc0 : x.length ≤ c0) (h1 : Kd.C (Kd.int .i64) w A1 y.length y) (hc1 : y.length ≤ c1) (hs : x.length ≤ 4611686018427387904) (b : Bool) (hb : decide (x = y) = b) :
    Calls Try.prog 27 #[.slice A0 x.length c0, .slice A1 y.length c1] w (BPost w b) :=
  (cloisterref01_Same.calls _ A0 c0 x A1 c1 y _ w h0 hc0 h1 hc1 (same_f x y hs)).mono fun e w' ⟨he, hd⟩ => ⟨hb ▸ he, hd.below⟩
/-- A row of one's own can be read. -/
theorem own_C {W : World} {base : Nat} {A : Option Addr} {c : Nat} {l : List Int} (h : W.ownsRow base 3 1 (.slice A l.length c) l.length (nums .i64 l)) : Kd.C (Kd.int .i64) W A l.length l ∧ l.length ≤ c := by
  obtain ⟨A', c', e, hc, hC⟩ := Kd.R_reads (Kd.R_of_own (h1 := fun _ => rfl) (ok := fun _ => True) (enc := Value.int .i64) h (fun _ _ => trivial))
  injection e with e1 _ e3
  subst e1 e3
  exact ⟨hC, hc⟩
/-- What a run leaves, told to a law: all that was turned is the law's own. -/
theorem run_below {w0 W W' : World} {f : Nat → Prop} (h : Below w0.heap.size w0 W) (hm : Mv W W' f) (hf : ∀ k, f k → w0.heap.size ≤ k) : Below w0.heap.size w0 W' :=
  ⟨hm.os.trans h.os, hm.tape.trans h.tape, hm.output.trans h.output, Nat.le_trans h.size hm.size, fun i hi => (hm.block i (Nat.lt_of_lt_of_le hi h.size) (fun e => by have := hf i e; omega)).trans (h.block i hi)⟩
theorem below_q {W w2 w3 : World} (h : Below W.heap.size W w2) (k : Below W.heap.size w2 w3) : Below W.heap.size W w3 := ⟨k.os.trans h.os, k.tape.trans h.tape, k.output.trans h.output, Nat.le_trans h.size k.size, fun i hi => (k.block i hi).trans (h.block i hi)⟩
end Go.Proofs.Ytkjdhhdkfbkgpaa.VmW
namespace Go.Proofs.Ytkjdhhdkfbkgpaa.VmW
open Go.RowKit Go.Proofs.YtkjdhhdkfbkgpaaW.PrintWords Go.Proofs.YtkjdhhdkfbkgpaaW.PrintMore Go.Proofs.YtkjdhhdkfbkgpaaW.PrintLast Go.Proofs.Ytkjdhhdkfbkgpaa.Pvm
set_option linter.unusedVariables false
set_option linter.unusedSimpArgs false
def pushP (s : St) (n : Int) : St × Int := if 64 ≤ s.st.length then (⟨0, [], []⟩, 2) else (⟨s.pc, s.st ++ [n], s.ca⟩, 0)
def takeP (s : St) (n : Int) : St × List Int × Int :=
  if n < 0 then (⟨0, [], []⟩, [], 1) else if (s.st.length : Int) < n then (⟨0, [], []⟩, [], 3) else (⟨s.pc, s.st.take (s.st.length - n.toNat), s.ca⟩, s.st.drop (s.st.length - n.toNat), 0)
def PushPost (w : World) (r : St × Int) (e : Ending) (w' : World) : Prop := ∃ A1 c1 A2 c2, e = .returned (.tuple #[.agg #[.int .i64 r.1.pc, .slice A1 r.1.st.length c1, .slice A2 r.1.ca.length c2], .int .i64 r.2]) ∧ w'.ownsRow w.heap.size 3 1 (.slice A1 r.1.st.length c1) r.1.st.length (nums .i64 r.1.st) ∧ w'.ownsRow w.heap.size 3 1 (.slice A2 r.1.ca.length c2) r.1.ca.length (nums .i64 r.1.ca) ∧ Below w.heap.size w w'
def TakePost (w : World) (r : St × List Int × Int) (e : Ending) (w' : World) : Prop := ∃ A1 c1 A2 c2 A3 c3, e = .returned (.tuple #[.agg #[.int .i64 r.1.pc, .slice A1 r.1.st.length c1, .slice A2 r.1.ca.length c2], .slice A3 r.2.1.length c3, .int .i64 r.2.2]) ∧ w'.ownsRow w.heap.size 3 1 (.slice A1 r.1.st.length c1) r.1.st.length (nums .i64 r.1.st) ∧ w'.ownsRow w.heap.size 3 1 (.slice A2 r.1.ca.length c2) r.1.ca.length (nums .i64 r.1.ca) ∧ w'.ownsRow w.heap.size 3 1 (.slice A3 r.2.1.length c3) r.2.1.length (nums .i64 r.2.1) ∧ Below w.heap.size w w'
/-- The two boxes at the beginning: what came in, what is returned. -/
structure P0 (W W' : World) (bx : Array Value) : Prop where
  below : Below W.heap.size W W'
  b0 : W'.heap[W.heap.size]? = some (.cells bx 42 (0, 0))
  b1 : W'.heap[W.heap.size + 1]? = some (.cells #[.int .i64 0, .slice none 0 0, .slice none 0 0] 42 (0, 0))
theorem P0.mk_ (W : World) (bx : Array Value) : P0 W ((W.alloc (.cells bx 42)).alloc (.cells #[.int .i64 0, .slice none 0 0, .slice none 0 0] 42)) bx := by
  have e1 : (W.alloc (.cells bx 42)).heap.size = W.heap.size + 1 := by simp
  refine ⟨below_alloc (below_alloc (Below.refl _ _) _) _, ?_, ?_⟩
  · exact (heap_alloc_old _ _ (by simp)).trans (heap_alloc_new W _)
  · rw [← e1]; exact heap_alloc_new _ _
theorem P0.step {W W' W2 : World} {bx : Array Value} (h : P0 W W' bx) (hb : Below W'.heap.size W' W2) : P0 W W2 bx :=
  ⟨below_step h.below hb, (hb.block _ (blk_lt h.b0)).trans h.b0, (hb.block _ (blk_lt h.b1)).trans h.b1⟩
def out3 (W W' : World) (a b c : Value) : World := ((W'.setCell ⟨W.heap.size + 1, 0, none⟩ a).setCell ⟨W.heap.size + 1, 1, none⟩ b).setCell ⟨W.heap.size + 1, 2, none⟩ c
theorem P0.out {W W' : World} {bx : Array Value} (h : P0 W W' bx) (a b c : Value) : (out3 W W' a b c).heap[W.heap.size + 1]? = some (.cells #[a, b, c] 42 (0, 0)) ∧ Mv W' (out3 W W' a b c) (fun k => k = W.heap.size + 1) ∧ Below W.heap.size W (out3 W W' a b c) :=
  ⟨blk_set (blk_set (blk_set h.b1 0 a) 1 b) 2 c, (((Mv.refl W' (fun k => k = W.heap.size + 1)).set (p := ⟨W.heap.size + 1, 0, none⟩) (.inl rfl) a).set (p := ⟨W.heap.size + 1, 1, none⟩) (.inl rfl) b).set (p := ⟨W.heap.size + 1, 2, none⟩) (.inl rfl) c,
   ((h.below.setCell (p := ⟨W.heap.size + 1, 0, none⟩) (by show W.heap.size ≤ W.heap.size + 1; omega) a).setCell (p := ⟨W.heap.size + 1, 1, none⟩) (by show W.heap.size ≤ W.heap.size + 1; omega) b).setCell (p := ⟨W.heap.size + 1, 2, none⟩) (by show W.heap.size ≤ W.heap.size + 1; omega) c⟩
theorem P0.set {W W' : World} {bx : Array Value} (h : P0 W W' bx) {g : Nat} (hg : W.heap.size + 1 < g) (i : Nat) (u : Value) : P0 W (W'.setCell ⟨g, i, none⟩ u) bx :=
  ⟨h.below.setCell (p := ⟨g, i, none⟩) (by show W.heap.size ≤ g; omega) u, (Below.heap_setCell W' ⟨g, i, none⟩ u _ (by show W.heap.size ≠ g; omega)).trans h.b0, (Below.heap_setCell W' ⟨g, i, none⟩ u _ (by show W.heap.size + 1 ≠ g; omega)).trans h.b1⟩
theorem P0.grown {W W' W2 : World} {bx : Array Value} {row : Option Nat} (h : P0 W W' bx) (hg : W'.grownBy W2 row) (hr : ∀ k, row = some k → W.heap.size + 2 ≤ k) : P0 W W2 bx := by
  have hz : W.heap.size + 1 < W'.heap.size := blk_lt h.b1
  refine ⟨(Mv.of_grown hg (S := fun k => row = some k) (fun k e => .inl e)) |> fun m => ⟨m.os.trans h.below.os, m.tape.trans h.below.tape, m.output.trans h.below.output, Nat.le_trans h.below.size m.size, fun k hk => (m.block k (by omega) (fun e => by have := hr k e; omega)).trans (h.below.block k hk)⟩, ?_, ?_⟩
  · exact blk_grown h.b0 hg (fun e => by have := hr _ e.symm; omega)
  · exact blk_grown h.b1 hg (fun e => by have := hr _ e.symm; omega)
set_option maxHeartbeats 8000000 in
set_option maxRecDepth 100000 in
theorem push_full (W : World) (s : St) (A1 A2 : Option Addr) (c1 c2 : Nat) (n : Int) (hf : 64 ≤ s.st.length) :
    Calls Try.prog 44 #[.agg #[.int .i64 s.pc, .slice A1 s.st.length c1, .slice A2 s.ca.length c2], .int .i64 n] W (PushPost W (pushP s n)) := by
  have hu := Try.underlying42
  have h0 := P0.mk_ W #[.int .i64 s.pc, .slice A1 s.st.length c1, .slice A2 s.ca.length c2]
  have H0 := Aside0.mk h0
  have t0 : decide ((s.st.length : Int) ≥ 64) = true := decide_eq_true (by omega)
  have t1 : decide (64 ≤ (s.st.length : Int)) = true := decide_eq_true (by omega)
  have HP := Aside0.mk (show pushP s n = (⟨0, [], []⟩, 2) from by unfold pushP; exact if_pos hf)
  clear h0 hf
  go_enter Try.func44, Try.ntmps44
  go_wp2
  rw [HP.out]
  refine bodyPost_ret (v := .tuple #[.agg #[.int .i64 0, .slice none 0 0, .slice none 0 0], .int .i64 2]) (by simp [results, Try.results44, go_sem]) rfl ⟨none, 0, none, 0, rfl, ?_, ?_, ?_⟩
  · exact own_nil _ _ _ _
  · exact own_nil _ _ _ _
  · exact H0.out.below
set_option maxHeartbeats 8000000 in
set_option maxRecDepth 100000 in
theorem push_ok (W : World) (s : St) (A1 A2 : Option Addr) (c1 c2 : Nat) (h1 : Kd.C (Kd.int .i64) W A1 s.st.length s.st) (h2 : Kd.C (Kd.int .i64) W A2 s.ca.length s.ca) (hb1 : s.st.length * 8 ≤ 140737488355328) (hb2 : s.ca.length * 8 ≤ 140737488355328) (n : Int) (hf : ¬ 64 ≤ s.st.length) :
    Calls Try.prog 44 #[.agg #[.int .i64 s.pc, .slice A1 s.st.length c1, .slice A2 s.ca.length c2], .int .i64 n] W (PushPost W (pushP s n)) := by
  have hu := Try.underlying42
  have h0 := P0.mk_ W #[.int .i64 s.pc, .slice A1 s.st.length c1, .slice A2 s.ca.length c2]
  have H0 := Aside0.mk h0
  have t0 : decide ((s.st.length : Int) ≥ 64) = false := decide_eq_false (by omega)
  have t1 : decide (64 ≤ (s.st.length : Int)) = false := decide_eq_false (by omega)
  have HP := Aside0.mk (show pushP s n = (⟨s.pc, s.st ++ [n], s.ca⟩, 0) from by unfold pushP; exact if_neg hf)
  have HCP := Aside0.mk (copied_calls _ s A1 A2 c1 c2 (Kd.C_below h1 h0.below) (Kd.C_below h2 h0.below) hb1 hb2)
  have HF := Aside0.mk hf
  clear h0 h1 h2 hb1 hb2 hf
  go_enter Try.func44, Try.ntmps44
  go_upto_region 4 with (go_at_call 53; (with_reducible refine HCP.out.mono ?_); rintro e w1 ⟨B1, d1, B2, d2, rfl, ho1, ho2, hne, hb⟩; have HO1 := Aside0.mk ho1; have HO2 := Aside0.mk ho2; have HB := Aside0.mk hb; have HN := Aside0.mk hne; clear ho1 ho2 hb hne)
  have hz0 : W.heap.size + 2 = ((W.alloc (.cells #[.int .i64 s.pc, .slice A1 s.st.length c1, .slice A2 s.ca.length c2] 42)).alloc (.cells #[.int .i64 0, .slice none 0 0, .slice none 0 0] 42)).heap.size := by simp
  have hx := heap_alloc_new w1 (.cells #[.int .i64 s.pc, .slice B1 s.st.length d1, .slice B2 s.ca.length d2] 42)
  have h2 := (H0.out.step HB.out).step (below_alloc (Below.refl _ _) (.cells #[.int .i64 s.pc, .slice B1 s.st.length d1, .slice B2 s.ca.length d2] 42))
  have ho1 := own_alloc HO1.out (.cells #[.int .i64 s.pc, .slice B1 s.st.length d1, .slice B2 s.ca.length d2] 42)
  have ho2 := own_alloc HO2.out (.cells #[.int .i64 s.pc, .slice B1 s.st.length d1, .slice B2 s.ca.length d2] 42)
  have hw1 : W.heap.size + 2 ≤ w1.heap.size := by have := HB.out.size; omega
  rw [← hz0] at ho1 ho2
  generalize w1.alloc (.cells #[.int .i64 s.pc, .slice B1 s.st.length d1, .slice B2 s.ca.length d2] 42) = w2 at *
  have x0 := blk_cell hx 0
  have x1 := blk_cell hx 1
  have x2 := blk_cell hx 2
  have HX := Aside0.mk hx
  have H2 := Aside0.mk h2
  have HQ1 := Aside0.mk ho1
  have HQ2 := Aside0.mk ho2
  have HW := Aside0.mk hw1
  have hz2 : w1.heap.size ≠ W.heap.size + 1 := by omega
  clear hx h2 ho1 ho2 HO1 HO2 HB HCP H0 hz0 hw1
  go_wp2_with (at_builtin; refine print_append (w0 := W) W.heap.size rfl _ _ 33 3 (.int .i64 0) 8 rfl Try.underlying33 infoI rfl (by decide) (.slice B1 s.st.length d1) (nums .i64 s.st) (.int .i64 n) rfl rfl rfl (by rw [show (nums .i64 s.st).length = s.st.length from by simp [nums]]; exact own_less HQ1.out (by omega)) H2.out.below H2.out.below.size (by have := HF.out; have e : (nums .i64 s.st).length = s.st.length := (by simp [nums]); omega) ?_; intro v1 w3 ho_ hb hg hat; have ho : w3.ownsRow W.heap.size 3 1 v1 (s.st ++ [n]).length (nums .i64 (s.st ++ [n])) := (show nums .i64 s.st ++ [Value.int .i64 n] = nums .i64 (s.st ++ [n]) from by simp [nums]) ▸ (show (nums .i64 s.st ++ [Value.int .i64 n]).length = (s.st ++ [n]).length from by simp [nums]) ▸ ho_; have h3 := H2.out.grown hg (fun k e => own_base HQ1.out k e); have hx3 := blk_grown HX.out hg (own_ne HQ1.out HX.out (by decide)); have x0' := blk_cell hx3 0; have x1' := blk_cell hx3 1; have x2' := blk_cell hx3 2; have f1' := blk_frozen hx3 1; have y0 := blk_cell h3.b1 0; have y1 := blk_cell h3.b1 1; have y2 := blk_cell h3.b1 2; have g0 := blk_frozen h3.b1 0; have g1 := blk_frozen h3.b1 1; have g2 := blk_frozen h3.b1 2; obtain ⟨A5, c5, rfl⟩ := own_slice ho; rw [show (s.st ++ [n]).length = s.st.length + 1 from by simp] at ho ⊢; have HO3 := Aside0.mk ho; have HG := Aside0.mk hg; have H3 := Aside0.mk h3; have HX3 := Aside0.mk hx3; clear ho ho_ hb hg hat h3 hx3 x0 x1 x2)
  have h3 := H3.out.set (g := w1.heap.size) (by have := HW.out; omega) 1 (.slice A5 (s.st.length + 1) c5)
  have q1 := own_setCell (p := ⟨w1.heap.size, 1, none⟩) HO3.out (own_ne HO3.out HX3.out (by decide)) (.slice A5 (s.st.length + 1) c5)
  have hQ : w3.ownsRow (W.heap.size + 2) 3 1 (.slice B2 s.ca.length d2) s.ca.length (nums .i64 s.ca) := (Mv.of_grown HG.out (S := fun k => (Value.slice B1 s.st.length d1).ownBlock = some k) (fun k e => .inl e)).own HQ2.out (fun k hk hS => HN.out k hS hk)
  have q2 := own_setCell (p := ⟨w1.heap.size, 1, none⟩) hQ (own_ne hQ HX3.out (by decide)) (.slice A5 (s.st.length + 1) c5)
  obtain ⟨o1, om, ob⟩ := h3.out (.int .i64 s.pc) (.slice A5 (s.st.length + 1) c5) (.slice B2 s.ca.length d2)
  have q3 := om.own q1 (fun k hk e => own_ne q1 h3.b1 (by decide) (by rw [hk, e]))
  have q4 := om.own q2 (fun k hk e => own_ne q2 h3.b1 (by decide) (by rw [hk, e]))
  unfold out3 at o1 ob q3 q4
  have e0 := blk_cell o1 0
  have e1 := blk_cell o1 1
  have e2 := blk_cell o1 2
  simp only [List.getElem?_toArray, List.getElem?_cons_zero, List.getElem?_cons_succ] at e0 e1 e2
  rw [HP.out]
  exact bodyPost_ret (v := .tuple #[.agg #[.int .i64 s.pc, .slice A5 (s.st.length + 1) c5, .slice B2 s.ca.length d2], .int .i64 0]) (by simp [results, Try.results44, go_sem, e0, e1, e2]) rfl
    ⟨A5, c5, B2, d2, by simp, by simpa using q3, own_less q4 (by omega), ob⟩
theorem push_calls (W : World) (s : St) (A1 A2 : Option Addr) (c1 c2 : Nat) (h1 : Kd.C (Kd.int .i64) W A1 s.st.length s.st) (h2 : Kd.C (Kd.int .i64) W A2 s.ca.length s.ca) (hb1 : s.st.length * 8 ≤ 140737488355328) (hb2 : s.ca.length * 8 ≤ 140737488355328) (n : Int) :
    Calls Try.prog 44 #[.agg #[.int .i64 s.pc, .slice A1 s.st.length c1, .slice A2 s.ca.length c2], .int .i64 n] W (PushPost W (pushP s n)) := by
  by_cases hf : 64 ≤ s.st.length
  · exact push_full W s A1 A2 c1 c2 n hf
  · exact push_ok W s A1 A2 c1 c2 h1 h2 hb1 hb2 n hf
end Go.Proofs.Ytkjdhhdkfbkgpaa.VmW
namespace Go.Proofs.Ytkjdhhdkfbkgpaa.VmW
open Go.RowKit Go.Proofs.YtkjdhhdkfbkgpaaW.PrintWords Go.Proofs.YtkjdhhdkfbkgpaaW.PrintMore Go.Proofs.YtkjdhhdkfbkgpaaW.PrintLast Go.Proofs.Ytkjdhhdkfbkgpaa.Pvm
set_option linter.unusedVariables false
set_option linter.unusedSimpArgs false
def nilSt : St := ⟨0, [], []⟩
set_option maxHeartbeats 8000000 in
set_option maxRecDepth 100000 in
theorem take_no (W : World) (s : St) (A1 A2 : Option Addr) (c1 c2 : Nat) (n err : Int) (hf : (n < 0 ∧ err = 1) ∨ (0 ≤ n ∧ (s.st.length : Int) < n ∧ n ≤ 9223372036854775807 ∧ err = 3)) :
    Calls Try.prog 43 #[.agg #[.int .i64 s.pc, .slice A1 s.st.length c1, .slice A2 s.ca.length c2], .int .i64 n] W (TakePost W (nilSt, [], err)) := by
  have hu := Try.underlying42
  have h0 := P0.mk_ W #[.int .i64 s.pc, .slice A1 s.st.length c1, .slice A2 s.ca.length c2]
  have H0 := Aside0.mk h0
  clear h0
  rcases hf with ⟨hf, rfl⟩ | ⟨hf, hf2, hf3, rfl⟩
  · have t0 : decide (n < 0) = true := decide_eq_true hf
    generalize hw : wrap64 ((s.st.length : Int) - n) = kk
    clear hf
    go_enter Try.func43, Try.ntmps43
    go_wp2
    exact bodyPost_ret (v := .tuple #[.agg #[.int .i64 0, .slice none 0 0, .slice none 0 0], .slice none 0 0, .int .i64 1]) (by simp [results, Try.results43, go_sem]) rfl ⟨none, 0, none, 0, none, 0, rfl, own_nil _ _ _ _, own_nil _ _ _ _, own_nil _ _ _ _, H0.out.below⟩
  · have t0 : decide (n < 0) = false := decide_eq_false (by omega)
    have ew : wrap64 ((s.st.length : Int) - n) = (s.st.length : Int) - n := by unfold wrap64; omega
    have t1 : decide ((s.st.length : Int) - n < 0) = true := decide_eq_true (by omega)
    clear hf hf2 hf3
    go_enter Try.func43, Try.ntmps43
    go_wp2
    exact bodyPost_ret (v := .tuple #[.agg #[.int .i64 0, .slice none 0 0, .slice none 0 0], .slice none 0 0, .int .i64 3]) (by simp [results, Try.results43, go_sem]) rfl ⟨none, 0, none, 0, none, 0, rfl, own_nil _ _ _ _, own_nil _ _ _ _, own_nil _ _ _ _, H0.out.below⟩
set_option maxHeartbeats 8000000 in
set_option maxRecDepth 100000 in
theorem take_ok (W : World) (s : St) (A1 A2 : Option Addr) (c1 c2 : Nat) (h1 : Kd.C (Kd.int .i64) W A1 s.st.length s.st) (h2 : Kd.C (Kd.int .i64) W A2 s.ca.length s.ca) (hb1 : s.st.length * 8 ≤ 140737488355328) (hb2 : s.ca.length * 8 ≤ 140737488355328) (n : Int) (K : Nat) (hK : K ≤ s.st.length) (hn : n = ((s.st.length : Nat) : Int) - (K : Int)) :
    Calls Try.prog 43 #[.agg #[.int .i64 s.pc, .slice A1 s.st.length c1, .slice A2 s.ca.length c2], .int .i64 n] W (TakePost W (⟨s.pc, s.st.take K, s.ca⟩, s.st.drop K, 0)) := by
  have hu := Try.underlying42
  have h0 := P0.mk_ W #[.int .i64 s.pc, .slice A1 s.st.length c1, .slice A2 s.ca.length c2]
  have H0 := Aside0.mk h0
  have t0 : decide (n < 0) = false := decide_eq_false (by omega)
  have ew : wrap64 (K : Int) = (K : Int) := by unfold wrap64; omega
  have ew2 : (s.st.length : Int) - n = (K : Int) := by omega
  have t1 : decide ((K : Int) < 0) = false := decide_eq_false (by omega)
  have HCP := Aside0.mk (copied_calls _ s A1 A2 c1 c2 (Kd.C_below h1 h0.below) (Kd.C_below h2 h0.below) hb1 hb2)
  have HF := Aside0.mk (And.intro hK hb1)
  clear h0 h1 h2 hb1 hb2 hn hK
  go_enter Try.func43, Try.ntmps43
  go_upto_region 7 with (go_at_call 53; (with_reducible refine HCP.out.mono ?_); rintro e w1 ⟨B1, d1, B2, d2, rfl, ho1, ho2, hne, hb⟩; have HO1 := Aside0.mk ho1; have HO2 := Aside0.mk ho2; have HB := Aside0.mk hb; have HN := Aside0.mk hne; clear ho1 ho2 hb hne)
  have hz0 : W.heap.size + 2 = ((W.alloc (.cells #[.int .i64 s.pc, .slice A1 s.st.length c1, .slice A2 s.ca.length c2] 42)).alloc (.cells #[.int .i64 0, .slice none 0 0, .slice none 0 0] 42)).heap.size := by simp
  have hx := heap_alloc_new w1 (.cells #[.int .i64 s.pc, .slice B1 s.st.length d1, .slice B2 s.ca.length d2] 42)
  have h2 := (H0.out.step HB.out).step (below_alloc (Below.refl _ _) (.cells #[.int .i64 s.pc, .slice B1 s.st.length d1, .slice B2 s.ca.length d2] 42))
  have ho1 := own_alloc HO1.out (.cells #[.int .i64 s.pc, .slice B1 s.st.length d1, .slice B2 s.ca.length d2] 42)
  have ho2 := own_alloc HO2.out (.cells #[.int .i64 s.pc, .slice B1 s.st.length d1, .slice B2 s.ca.length d2] 42)
  have hw1 : W.heap.size + 2 ≤ w1.heap.size := by have := HB.out.size; omega
  rw [← hz0] at ho1 ho2
  generalize w1.alloc (.cells #[.int .i64 s.pc, .slice B1 s.st.length d1, .slice B2 s.ca.length d2] 42) = w2 at *
  have x0 := blk_cell hx 0
  have x1 := blk_cell hx 1
  have x2 := blk_cell hx 2
  have hcap := (own_C ho1).2
  have hKl := HF.out.1
  obtain ⟨i0, hi, hzz⟩ := Option.map_eq_some_iff.1 infoI
  simp only [Prod.mk.injEq] at hzz
  obtain ⟨A9, hcut, hrd, hc9⟩ := print_cut_int (P := Try.prog) (k := .i64) 33 3 Try.underlying33 hi hzz.2.1 B1 d1 s.st (K : Int) (Int.natCast_nonneg K) (by omega) hcap
  rw [show (K : Int).toNat = K from rfl] at hcut hrd hc9
  have hC9 : Kd.C (Kd.int .i64) w2 A9 (s.st.drop K).length (s.st.drop K) := Kd.C_of_reads (enc := Value.int .i64) (d := (0 : Int)) (h1 := fun _ => rfl) (hrd w2 (own_reads' ho1))
  have hk0 : (0 : Int) ≤ (K : Int) := Int.natCast_nonneg K
  have hk1 : (K : Int) ≤ (d1 : Int) := by omega
  have hk2 : K ≤ d1 := by omega
  have HX := Aside0.mk hx
  have H2 := Aside0.mk h2
  have HQ1 := Aside0.mk ho1
  have HQ2 := Aside0.mk ho2
  have HW := Aside0.mk hw1
  have hz2 : w1.heap.size ≠ W.heap.size + 1 := by omega
  have hdl : (s.st.drop K).length * 8 ≤ 140737488355328 := by have := HF.out.2; rw [List.length_drop]; omega
  have hcl := clone_calls A9 (d1 - K) (s.st.drop K) w2 hC9 hdl
  rw [List.length_drop] at hcl
  have HDL := Aside0.mk hcl
  have hm : (s.st.take K).length = K := by rw [List.length_take]; have := HF.out.1; omega
  have HM := Aside0.mk hm
  clear hx h2 ho1 ho2 HO1 HO2 HB HCP H0 hz0 hw1 hcap hKl hi hzz hrd hc9 hdl hcl hC9 hm
  go_wp2_with (go_at_call 55; (with_reducible refine HDL.out.mono ?_); rintro e w3 ⟨C1, c3, rfl, ho, hb⟩; rw [List.length_drop] at ho ⊢; have h3 := H2.out.step hb; have hx3 := (hb.block _ (blk_lt HX.out)).trans HX.out; have x0' := blk_cell hx3 0; have x1' := blk_cell hx3 1; have x2' := blk_cell hx3 2; have f1' := blk_frozen hx3 1; have y0 := blk_cell h3.b1 0; have y1 := blk_cell h3.b1 1; have y2 := blk_cell h3.b1 2; have g0 := blk_frozen h3.b1 0; have g1 := blk_frozen h3.b1 1; have g2 := blk_frozen h3.b1 2; have HO3 := Aside0.mk ho; have HG := Aside0.mk hb; have H3 := Aside0.mk h3; have HX3 := Aside0.mk hx3; clear ho hb h3 hx3 x0 x1 x2)
  have h3 := H3.out.set (g := w1.heap.size) (by have := HW.out; omega) 1 (.slice B1 K d1)
  have r1 := own_take (pw_own_below HQ1.out HG.out) HF.out.1
  have r2 := pw_own_below HQ2.out HG.out
  have r3 := own_less HO3.out H2.out.below.size
  have q1 := own_setCell (p := ⟨w1.heap.size, 1, none⟩) r1 (own_ne r1 HX3.out (by decide)) (.slice B1 K d1)
  have q2 := own_setCell (p := ⟨w1.heap.size, 1, none⟩) r2 (own_ne r2 HX3.out (by decide)) (.slice B1 K d1)
  have q3 := own_setCell (p := ⟨w1.heap.size, 1, none⟩) r3 (own_ne r3 HX3.out (by decide)) (.slice B1 K d1)
  obtain ⟨o1, om, ob⟩ := h3.out (.int .i64 s.pc) (.slice B1 K d1) (.slice B2 s.ca.length d2)
  have q4 := om.own q1 (fun k hk e => own_ne q1 h3.b1 (by decide) (by rw [hk, e]))
  have q5 := om.own q2 (fun k hk e => own_ne q2 h3.b1 (by decide) (by rw [hk, e]))
  have q6 := om.own q3 (fun k hk e => own_ne q3 h3.b1 (by decide) (by rw [hk, e]))
  unfold out3 at o1 ob q4 q5 q6
  have e0 := blk_cell o1 0
  have e1 := blk_cell o1 1
  have e2 := blk_cell o1 2
  simp only [List.getElem?_toArray, List.getElem?_cons_zero, List.getElem?_cons_succ] at e0 e1 e2
  have hm := HM.out
  have en : (nums .i64 s.st).take (K * 1) = nums .i64 (s.st.take K) := by rw [Nat.mul_one]; unfold nums; rw [List.map_take]
  rw [en] at q4
  have q4 := own_less q4 (show W.heap.size ≤ W.heap.size + 2 by omega)
  have q5 := own_less q5 (show W.heap.size ≤ W.heap.size + 2 by omega)
  refine bodyPost_ret (v := .tuple #[.agg #[.int .i64 s.pc, .slice B1 K d1, .slice B2 s.ca.length d2], .slice C1 (s.st.length - K) c3, .int .i64 0]) (by simp [results, Try.results43, go_sem, e0, e1, e2]) rfl ?_
  unfold TakePost
  dsimp only
  rw [hm, List.length_drop]
  exact ⟨B1, d1, B2, d2, C1, c3, rfl, q4, q5, q6, ob⟩
def takeP' (s : St) (n : Int) : St × List Int × Int := if n < 0 then (nilSt, [], 1) else if (s.st.length : Int) < n then (nilSt, [], 3) else (⟨s.pc, s.st.take (s.st.length - n.toNat), s.ca⟩, s.st.drop (s.st.length - n.toNat), 0)
theorem take_calls (W : World) (s : St) (A1 A2 : Option Addr) (c1 c2 : Nat) (h1 : Kd.C (Kd.int .i64) W A1 s.st.length s.st) (h2 : Kd.C (Kd.int .i64) W A2 s.ca.length s.ca) (hb1 : s.st.length * 8 ≤ 140737488355328) (hb2 : s.ca.length * 8 ≤ 140737488355328) (n : Int) (hn : n ≤ 9223372036854775807) :
    Calls Try.prog 43 #[.agg #[.int .i64 s.pc, .slice A1 s.st.length c1, .slice A2 s.ca.length c2], .int .i64 n] W (TakePost W (takeP' s n)) := by
  unfold takeP'
  by_cases h0 : n < 0
  · rw [if_pos h0]; exact take_no W s A1 A2 c1 c2 n 1 (.inl ⟨h0, rfl⟩)
  rw [if_neg h0]
  by_cases h3 : (s.st.length : Int) < n
  · rw [if_pos h3]; exact take_no W s A1 A2 c1 c2 n 3 (.inr ⟨by omega, h3, hn, rfl⟩)
  rw [if_neg h3]
  exact take_ok W s A1 A2 c1 c2 h1 h2 hb1 hb2 n _ (by omega) (by omega)
end Go.Proofs.Ytkjdhhdkfbkgpaa.VmW
