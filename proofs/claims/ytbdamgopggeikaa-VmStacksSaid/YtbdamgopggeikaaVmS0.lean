/- The machine's step: what is carried. -/
import Derived.Test.YtbdamgopggeikaaVmG
namespace Go.Proofs.Ytbdamgopggeikaa.VmW
open Go.RowKit Go.Proofs.YtbdamgopggeikaaW.PrintWords Go.Proofs.YtbdamgopggeikaaW.PrintMore Go.Proofs.YtbdamgopggeikaaW.PrintLast Go.Proofs.Ytbdamgopggeikaa.Pvm
set_option linter.unusedVariables false
set_option linter.unusedSimpArgs false
theorem cutP_zero (s : List Int) : cutP s 0 = s := by unfold cutP; simp
theorem opP_both {M : Type} {K : MemK M} {op a : Int} {s : St} {m : M} (h : op ≠ 1 ∧ op ≠ 3 ∧ op ≠ 2 ∧ op ≠ 4 ∧ op ≠ 17 ∧ op ≠ 18 ∧ op ≠ 19 ∧ op ≠ 20 ∧ op ≠ 21 ∧ op ≠ 22 ∧ op ≠ 23 ∧ op ≠ 24 ∧ op ≠ 25) :
    opP K op a s m = if (bothP op (lastP s.st 1) (lastP s.st 0)).2 = true then (⟨s.pc + 1, cutP s.st 2 ++ [(bothP op (lastP s.st 1) (lastP s.st 0)).1], s.ca⟩, m, 0, 0) else (s, m, 4, 0) := by
  obtain ⟨a1, a2, a3, a4, a5, a6, a7, a8, a9, a10, a11, a12, a13⟩ := h
  unfold opP
  rw [if_neg a1, if_neg a2, if_neg a3, if_neg a4, if_neg a5, if_neg a6, if_neg a7, if_neg a8, if_neg a9, if_neg a10, if_neg a11, if_neg a12, if_neg a13]
/-- A call through an interface value whose dynamic type is known, in a region that draws its order. -/
theorem goesI_ {P : Program} {ops : Array Oper} {Q : Exit → Act → World → Prop} {oi : Oper} {N : Option Tmp} {a : Act} {w : World} {K : Act → World → Prop} {f : FuncId} {fn : Func} {r : Operand} {name : String} {as_ : Array Operand} {ts : Array TypeId} {T : TypeId} {recv : Value}
    (hf : P.funcs[f]? = some fn) (hname : (fn.name == "runtime.NumGoroutine") = false) (hb : fn.body.isSome = true) (hm : ∀ w, (Go.method (P.types.size + Made.depth) T recv name).run P w = .ok (f, recv) w) (args : Array Value)
    (hw : Region.wanted oi (yielded ops a.tmps) = true) (hN : oi.dst = N) (hop : oi.op = .call { callee := .invoke r name, args := as_, argTypes := ts }) (hr : a.eval r = .iface T recv) (hargs : as_.map a.eval = args) (full : Array Value) (hfull : #[recv] ++ args = full)
    (h : Calls P f full w fun e w' => ∃ v, e = .returned v ∧ K (a.put N v) w') : if Region.wanted oi (yielded ops a.tmps) = true then Oper.wp P oi a w K Q else K (a.put N undef) w := by
  subst hfull
  refine call_ f (#[recv] ++ args) hw hN ?_ h
  have he := enters_ hf hname hb (#[recv] ++ args) w
  unfold execOp
  simp only [hop, resolve, hr, hargs]
  have h0 : (#[Value.iface T recv] ++ args)[0]? = some (Value.iface T recv) := by rw [Array.getElem?_append_left (by simp)]; rfl
  simp [invoke, callMethod, go_sem, hm, h0]
  simp only [Made.depth] at hm
  simp [hm, go_sem]
  simpa using he
/-- A row's block is as it was, or new. -/
def At_ (n : Nat) (v v' : Value) : Prop := v'.ownBlock = v.ownBlock ∨ ∃ b, v'.ownBlock = some b ∧ n ≤ b
def StepPost (W : World) (base g : Nat) (Ac : Option Addr) (cc : Nat) (code : List In) (p : Value) (f : Nat → Prop) (v1 v2 : Value) (r : St × Mem × Int × Int) (e : Ending) (W' : World) : Prop :=
  ∃ v1' v2' f', e = .returned (.agg #[.int .i64 r.2.2.1, .int .i64 r.2.2.2, .int .i64 0]) ∧ Mach W' base g Ac cc code p f' v1' v2' r.1 r.2.1 ∧ Mv W W' (mS g v1 v2 f) ∧ At_ W.heap.size v1 v1' ∧ At_ W.heap.size v2 v2' ∧ ∀ k, f' k → f k ∨ W.heap.size ≤ k
/-- The step's own boxes: how it stops, a fault, the instruction. -/
structure SE (W : World) (base g : Nat) (Ac : Option Addr) (cc : Nat) (code : List In) (p : Value) (f0 : Nat → Prop) (u1 u2 : Value) (op a : Int) (f : Nat → Prop) (v1 v2 : Value) (s : St) (m : Mem) (W' : World) : Prop where
  m : Mach W' base g Ac cc code p f v1 v2 s m
  mv : Mv W W' (mS g u1 u2 f0)
  a1 : At_ W.heap.size u1 v1
  a2 : At_ W.heap.size u2 v2
  af : ∀ k, f k → f0 k ∨ W.heap.size ≤ k
  bw : base ≤ W.heap.size
  res : W'.heap[W.heap.size]? = some (.cells #[.int .i64 0, .int .i64 0, .int .i64 0] 33 (0, 0))
  flt : W'.heap[W.heap.size + 1]? = some (.cells #[.int .i64 4, .int .i64 0, .int .i64 0] 33 (0, 0))
  ins : W'.heap[W.heap.size + 2]? = some (.cells #[.int .i64 op, .int .i64 a] 51 (0, 0))
section
variable {W W' W2 : World} {base g : Nat} {Ac : Option Addr} {cc : Nat} {code : List In} {p : Value} {f0 f : Nat → Prop} {u1 u2 v1 v2 : Value} {op a : Int} {s : St} {m : Mem}
theorem SE.step (h : SE W base g Ac cc code p f0 u1 u2 op a f v1 v2 s m W') (hb : Below W'.heap.size W' W2) : SE W base g Ac cc code p f0 u1 u2 op a f v1 v2 s m W2 :=
  ⟨h.m.step hb, h.mv.trans (Mv.of_below hb (fun _ => False)) (fun _ e => e.elim), h.a1, h.a2, h.af, h.bw, (hb.block _ (blk_lt h.res)).trans h.res, (hb.block _ (blk_lt h.flt)).trans h.flt, (hb.block _ (blk_lt h.ins)).trans h.ins⟩
/-- What the machine's blocks are, none of the step's boxes. -/
theorem SE.not (h : SE W base g Ac cc code p f0 u1 u2 op a f v1 v2 s m W') (k : Nat) (o : Array Value) (t : TypeId) (hk : W'.heap[k]? = some (.cells o t (0, 0))) (ht : t = 33 ∨ t = 51) (hf : ¬ f k) : ¬ mS g v1 v2 f k := by
  rintro (e | e | e | e)
  · subst e
    have := h.m.box
    rw [hk] at this
    injection this with this
    injection this with _ this
    rcases ht with rfl | rfl <;> exact absurd this (by decide)
  · obtain ⟨cs, hh⟩ := own_typed h.m.stk k e
    rw [hk] at hh
    injection hh with hh
    injection hh with _ hh
    rcases ht with rfl | rfl <;> exact absurd hh (by decide)
  · obtain ⟨cs, hh⟩ := own_typed h.m.cal k e
    rw [hk] at hh
    injection hh with hh
    injection hh with _ hh
    rcases ht with rfl | rfl <;> exact absurd hh (by decide)
  · exact hf e
/-- The memory's blocks are none of the step's boxes. -/
theorem SE.old (h : SE W base g Ac cc code p f0 u1 u2 op a f v1 v2 s m W') (hf : ∀ k, f k → k < W.heap.size ∨ W.heap.size + 3 ≤ k) : ¬ f W.heap.size ∧ ¬ f (W.heap.size + 1) ∧ ¬ f (W.heap.size + 2) :=
  ⟨fun e => by have := hf _ e; omega, fun e => by have := hf _ e; omega, fun e => by have := hf _ e; omega⟩
/-- The machine has been turned. -/
theorem SE.turn (h : SE W base g Ac cc code p f0 u1 u2 op a f v1 v2 s m W') {f' : Nat → Prop} {v1' v2' : Value} {s' : St} {m' : Mem} (hf : ¬ f W.heap.size ∧ ¬ f (W.heap.size + 1) ∧ ¬ f (W.heap.size + 2)) (hm : Mach W2 base g Ac cc code p f' v1' v2' s' m') (hv : Mv W' W2 (mS g v1 v2 f)) (h1 : At_ W'.heap.size v1 v1') (h2 : At_ W'.heap.size v2 v2') (hf' : ∀ k, f' k → f k ∨ W'.heap.size ≤ k) :
    SE W base g Ac cc code p f0 u1 u2 op a f' v1' v2' s' m' W2 := by
  have hz := h.mv.size
  have hat : ∀ {u v v' : Value}, At_ W.heap.size u v → At_ W'.heap.size v v' → At_ W.heap.size u v' := fun {u v v'} x y => by
    rcases y with y | ⟨b, y, hy⟩
    · rcases x with x | ⟨b, x, hx⟩
      · exact .inl (y.trans x)
      · exact .inr ⟨b, y.trans x, hx⟩
    · exact .inr ⟨b, y, Nat.le_trans hz hy⟩
  refine ⟨hm, h.mv.trans hv fun k e => ?_, hat h.a1 h1, hat h.a2 h2, fun k e => (hf' k e).elim (h.af k) (fun hle => .inr (Nat.le_trans hz hle)), h.bw, hv.blk h.res (h.not _ _ _ h.res (.inl rfl) hf.1), hv.blk h.flt (h.not _ _ _ h.flt (.inl rfl) hf.2.1), hv.blk h.ins (h.not _ _ _ h.ins (.inr rfl) hf.2.2)⟩
  have hr : ∀ {u v : Value}, At_ W.heap.size u v → v.ownBlock = some k → u.ownBlock = some k ∨ W.heap.size ≤ k := fun {u v} x y => by
    rcases x with x | ⟨b, x, hx⟩
    · exact .inl (x ▸ y)
    · rw [x] at y; have := Option.some.inj y; exact .inr (by omega)
  rcases e with e | e | e | e
  · exact .inl (.inl e)
  · exact (hr h.a1 e).elim (fun e => .inl (.inr (.inl e))) .inr
  · exact (hr h.a2 e).elim (fun e => .inl (.inr (.inr (.inl e)))) .inr
  · exact (h.af k e).elim (fun e => .inl (.inr (.inr (.inr e)))) .inr
theorem SE.init {W1 w3 : World} (h : Mach W base g Ac cc code p f v1 v2 s m) (hbase : base ≤ W.heap.size) (hb1 : Below W.heap.size W W1) (hz : W1.heap.size = W.heap.size + 2)
    (y0 : W1.heap[W.heap.size]? = some (.cells #[.int .i64 0, .int .i64 0, .int .i64 0] 33 (0, 0))) (y1 : W1.heap[W.heap.size + 1]? = some (.cells #[.int .i64 4, .int .i64 0, .int .i64 0] 33 (0, 0)))
    (hb : Below W1.heap.size W1 w3) (hn : w3.heap[W.heap.size + 2]? = some (.cells #[.int .i64 0, .int .i64 0] 51 (0, 0))) (op a : Int) :
    SE W base g Ac cc code p f v1 v2 op a f v1 v2 s m ((w3.setCell ⟨W.heap.size + 2, 0, none⟩ (.int .i64 op)).setCell ⟨W.heap.size + 2, 1, none⟩ (.int .i64 a)) := by
  have hb2 : Below W1.heap.size W1 ((w3.setCell ⟨W.heap.size + 2, 0, none⟩ (.int .i64 op)).setCell ⟨W.heap.size + 2, 1, none⟩ (.int .i64 a)) :=
    (hb.setCell (p := ⟨W.heap.size + 2, 0, none⟩) (by show W1.heap.size ≤ W.heap.size + 2; omega) _).setCell (p := ⟨W.heap.size + 2, 1, none⟩) (by show W1.heap.size ≤ W.heap.size + 2; omega) _
  exact ⟨(h.step hb1).step hb2, (Mv.of_below hb1 _).trans (Mv.of_below hb2 (fun _ => False)) (fun _ e => e.elim), .inl rfl, .inl rfl, fun k e => .inl e, hbase, (hb2.block _ (blk_lt y0)).trans y0, (hb2.block _ (blk_lt y1)).trans y1, blk_set (blk_set hn 0 _) 1 _⟩
theorem SE.cells (h : SE W base g Ac cc code p f0 u1 u2 op a f v1 v2 s m W') :
    W'.cell? ⟨g, 0, none⟩ = some (.slice Ac code.length cc) ∧ W'.cell? ⟨g, 1, none⟩ = some (.int .i64 s.pc) ∧ W'.cell? ⟨g, 2, none⟩ = some v1 ∧ W'.cell? ⟨g, 3, none⟩ = some v2 ∧ W'.cell? ⟨g, 4, none⟩ = some (memI p) ∧ W'.frozen? ⟨g, 1, none⟩ = false ∧ W'.frozen? ⟨g, 3, none⟩ = false :=
  ⟨blk_cell h.m.box 0, blk_cell h.m.box 1, blk_cell h.m.box 2, blk_cell h.m.box 3, blk_cell h.m.box 4, blk_frozen h.m.box 1, blk_frozen h.m.box 3⟩
theorem SE.boxes (h : SE W base g Ac cc code p f0 u1 u2 op a f v1 v2 s m W') :
    W'.cell? ⟨W.heap.size, 0, none⟩ = some (.int .i64 0) ∧ W'.cell? ⟨W.heap.size, 1, none⟩ = some (.int .i64 0) ∧ W'.cell? ⟨W.heap.size, 2, none⟩ = some (.int .i64 0) ∧ W'.frozen? ⟨W.heap.size, 0, none⟩ = false ∧ W'.frozen? ⟨W.heap.size, 1, none⟩ = false ∧ W'.frozen? ⟨W.heap.size, 2, none⟩ = false ∧
    W'.cell? ⟨W.heap.size + 1, 0, none⟩ = some (.int .i64 4) ∧ W'.cell? ⟨W.heap.size + 1, 1, none⟩ = some (.int .i64 0) ∧ W'.cell? ⟨W.heap.size + 1, 2, none⟩ = some (.int .i64 0) ∧ W'.cell? ⟨W.heap.size + 2, 0, none⟩ = some (.int .i64 op) ∧ W'.cell? ⟨W.heap.size + 2, 1, none⟩ = some (.int .i64 a) :=
  ⟨blk_cell h.res 0, blk_cell h.res 1, blk_cell h.res 2, blk_frozen h.res 0, blk_frozen h.res 1, blk_frozen h.res 2, blk_cell h.flt 0, blk_cell h.flt 1, blk_cell h.flt 2, blk_cell h.ins 0, blk_cell h.ins 1⟩
/-- What is told at the end: the box of how it stops has been written. -/
theorem SE.told (h : SE W base g Ac cc code p f0 u1 u2 op a f v1 v2 s m W') (x y z : Int) (hf : ∀ k, f k → k < W.heap.size ∨ W.heap.size + 3 ≤ k) {r : St × Mem × Int × Int} (hr : r = (s, m, x, y)) {e : Ending} (he : e = .returned (.agg #[.int .i64 x, .int .i64 y, .int .i64 0])) :
    StepPost W base g Ac cc code p f0 u1 u2 r e (((W'.setCell ⟨W.heap.size, 0, none⟩ (.int .i64 x)).setCell ⟨W.heap.size, 1, none⟩ (.int .i64 y)).setCell ⟨W.heap.size, 2, none⟩ (.int .i64 z)) := by
  subst hr
  have hn := h.not _ _ _ h.res (.inl rfl) (h.old hf).1
  have hm : Mv W' (((W'.setCell ⟨W.heap.size, 0, none⟩ (.int .i64 x)).setCell ⟨W.heap.size, 1, none⟩ (.int .i64 y)).setCell ⟨W.heap.size, 2, none⟩ (.int .i64 z)) (fun k => k = W.heap.size) :=
    (((Mv.refl W' (fun k => k = W.heap.size)).set (p := ⟨W.heap.size, 0, none⟩) (.inl rfl) _).set (p := ⟨W.heap.size, 1, none⟩) (.inl rfl) _).set (p := ⟨W.heap.size, 2, none⟩) (.inl rfl) _
  refine ⟨v1, v2, f, he, ⟨hm.blk h.m.box (fun e => hn (.inl e.symm)), hm.C kIn_any h.m.cde (fun ad e hp e2 => ?_), h.m.far, h.m.gb, hm.own h.m.stk (fun k e e2 => hn (.inr (.inl (e2 ▸ e)))), hm.own h.m.cal (fun k e e2 => hn (.inr (.inr (.inl (e2 ▸ e))))), h.m.ne, h.m.mem.mv hm (fun k e e2 => hn (.inr (.inr (.inr (e2 ▸ e))))), h.m.memf⟩, h.mv.trans hm (fun k e => .inr (by omega)), h.a1, h.a2, h.af⟩
  have h1 := (h.m.far ad e hp).1
  have h2 := h.bw
  omega
theorem SE.pc (h : SE W base g Ac cc code p f0 u1 u2 op a f v1 v2 s m W') (hf : ∀ k, f k → k < W.heap.size ∨ W.heap.size + 3 ≤ k) (x : Int) : SE W base g Ac cc code p f0 u1 u2 op a f v1 v2 ⟨x, s.st, s.ca⟩ m (W'.setCell ⟨g, 1, none⟩ (.int .i64 x)) :=
  h.turn (h.old hf) (h.m.pc x) ((Mv.refl W' (mS g v1 v2 f)).set (p := ⟨g, 1, none⟩) (.inl (.inl rfl)) _) (.inl rfl) (.inl rfl) (fun k e => .inl e)
theorem SE.left (h : SE W base g Ac cc code p f0 u1 u2 op a f v1 v2 s m W') (hf : ∀ k, f k → k < W.heap.size ∨ W.heap.size + 3 ≤ k) (t : Nat) (ti : Int) (hti : ti = t) (ht : t ≤ s.st.length) (hl : s.st.length ≤ 64) (A : Option Addr) (k c : Nat) (l : List Int) (hC : Kd.C (Kd.int .i64) W' A k l) (hk : k ≤ 8) :
    Calls Try.prog 37 #[.pointer (some ⟨g, 0, none⟩), .int .i64 ti, .slice A k c] W' fun e w' => ∃ B d, e = .returned (.tuple #[]) ∧ SE W base g Ac cc code p f0 u1 u2 op a f (.slice B (cutP s.st t ++ l).length d) v2 ⟨s.pc, cutP s.st t ++ l, s.ca⟩ m w' := by
  subst hti
  refine (leave_calls W' base g Ac cc code p f v1 v2 s m h.m (Nat.le_trans h.bw h.mv.size) t ht hl A k c l hC hk).mono ?_
  rintro e w' ⟨v, he, hm, hv, hat⟩
  obtain ⟨B, d, e1⟩ : ∃ B d, v = .slice B (cutP s.st t ++ l).length d := own_slice hm.stk
  subst e1
  exact ⟨B, d, he, h.turn (h.old hf) hm hv hat (.inl rfl) (fun k e => .inl e)⟩
theorem SE.lastc (h : SE W base g Ac cc code p f0 u1 u2 op a f v1 v2 s m W') (hl : s.st.length ≤ 64) (k : Nat) (ki : Int) (hki : ki = k) (hk : k < s.st.length) :
    Calls Try.prog 38 #[.pointer (some ⟨g, 0, none⟩), .int .i64 ki] W' fun e w' => e = .returned (.int .i64 (lastP s.st k)) ∧ SE W base g Ac cc code p f0 u1 u2 op a f v1 v2 s m w' := by
  subst hki
  obtain ⟨B, d, rfl⟩ := own_slice h.m.stk
  obtain ⟨b, rfl⟩ := row_some h.m.stk (by omega)
  refine (last_calls W' base g b s.st d k .nilIface h.m.stk h.cells.2.2.1 hk hl).mono ?_
  rintro e w' ⟨he, n, rfl⟩
  exact ⟨he, h.step (pw_below_drewN (Below.refl _ _) n)⟩
theorem SE.bitc (h : SE W base g Ac cc code p f0 u1 u2 op a f v1 v2 s m W') (b : Bool) : Calls Try.prog 39 #[.bool b] W' fun e w' => e = .returned (.int .i64 (bitP b)) ∧ SE W base g Ac cc code p f0 u1 u2 op a f v1 v2 s m w' :=
  (vm_bit.calls b (bitP b) W' (by unfold vm_bit.f bitP; cases b <;> rfl)).mono fun e w' ⟨he, hd⟩ => ⟨he, h.step hd.below⟩
theorem SE.bothc (h : SE W base g Ac cc code p f0 u1 u2 op a f v1 v2 s m W') (o x y : Int) : Calls Try.prog 40 #[.int .i64 o, .int .i64 x, .int .i64 y] W' fun e w' => e = .returned (.tuple #[.int .i64 (bothP o x y).1, .bool (bothP o x y).2]) ∧ SE W base g Ac cc code p f0 u1 u2 op a f v1 v2 s m w' :=
  (vm_both.calls o x y (bothP o x y).1 (bothP o x y).2 W' (both_f o x y)).mono fun e w' ⟨he, hd⟩ => ⟨he, h.step hd.below⟩
theorem SE.bothcc (h : SE W base g Ac cc code p f0 u1 u2 op a f v1 v2 s m W') {o x y n : Int} {ok : Bool} (hr : bothP o x y = (n, ok)) : Calls Try.prog 40 #[.int .i64 o, .int .i64 x, .int .i64 y] W' fun e w' => e = .returned (.tuple #[.int .i64 n, .bool ok]) ∧ SE W base g Ac cc code p f0 u1 u2 op a f v1 v2 s m w' := by
  have := h.bothc o x y
  rwa [hr] at this
theorem SE.far3 (h : SE W base g Ac cc code p f0 u1 u2 op a f v1 v2 s m W') {f' : Nat → Prop} (hf : ∀ k, f k → k < W.heap.size ∨ W.heap.size + 3 ≤ k) (hf' : ∀ k, f' k → f k ∨ W'.heap.size ≤ k) : ∀ k, f' k → k < W.heap.size ∨ W.heap.size + 3 ≤ k := fun k e => by
  rcases hf' k e with e | e
  · exact hf k e
  · have := blk_lt h.ins; omega
theorem SE.loadc (h : SE W base g Ac cc code p f0 u1 u2 op a f v1 v2 s m W') (hf : ∀ k, f k → k < W.heap.size ∨ W.heap.size + 3 ≤ k) {x y : Int} {m' : Mem} {ok : Bool} (hr : memK.load m x = (m', y, ok)) : Calls Try.prog 60 #[p, .int .i64 x] W' fun e w' => ∃ f', e = .returned (.tuple #[.int .u8 y, .bool ok]) ∧ SE W base g Ac cc code p f0 u1 u2 op a f' v1 v2 s m' w' ∧ (∀ k, f' k → k < W.heap.size ∨ W.heap.size + 3 ≤ k) := by
  refine (load_calls W' p f m h.m.mem x).mono ?_
  rintro e w' ⟨f', he, hp, hv, hf'⟩
  rw [hr] at he hp
  exact ⟨f', he, h.turn (h.old hf) (h.m.memory (Nat.le_trans h.bw h.mv.size) hv hp hf') (hv.mono (fun k e => .inl (.inr (.inr (.inr e))))) (.inl rfl) (.inl rfl) hf', h.far3 hf hf'⟩
theorem SE.storec (h : SE W base g Ac cc code p f0 u1 u2 op a f v1 v2 s m W') (hf : ∀ k, f k → k < W.heap.size ∨ W.heap.size + 3 ≤ k) {x y : Int} {m' : Mem} {ok : Bool} (hr : memK.store m x (y % 256) = (m', ok)) : Calls Try.prog 61 #[p, .int .i64 x, .int .u8 (y % 256)] W' fun e w' => ∃ f', e = .returned (.bool ok) ∧ SE W base g Ac cc code p f0 u1 u2 op a f' v1 v2 s m' w' ∧ (∀ k, f' k → k < W.heap.size ∨ W.heap.size + 3 ≤ k) := by
  refine (store_calls W' p f m h.m.mem x (y % 256) (by omega)).mono ?_
  rintro e w' ⟨f', he, hp, hv, hf'⟩
  rw [hr] at he hp
  exact ⟨f', he, h.turn (h.old hf) (h.m.memory (Nat.le_trans h.bw h.mv.size) hv hp hf') (hv.mono (fun k e => .inl (.inr (.inr (.inr e))))) (.inl rfl) (.inl rfl) hf', h.far3 hf hf'⟩
/-- The calls have another row. -/
theorem SE.called {w1 : World} {v2' : Value} {l : List Int} (h : SE W base g Ac cc code p f0 u1 u2 op a f v1 v2 s m W') (hf : ∀ k, f k → k < W.heap.size ∨ W.heap.size + 3 ≤ k) (ho : w1.ownsRow base 3 1 v2' l.length (nums .i64 l)) (hg : W'.grownBy w1 v2.ownBlock) (hat : v2'.ownBlock = v2.ownBlock ∨ ∃ b, v2'.ownBlock = some b ∧ W'.heap.size ≤ b) :
    SE W base g Ac cc code p f0 u1 u2 op a f v1 v2' ⟨s.pc, s.st, l⟩ m (w1.setCell ⟨g, 3, none⟩ v2') :=
  h.turn (h.old hf) (h.m.call ho hg hat).1 (h.m.call ho hg hat).2 (.inl rfl) hat (fun k e => .inl e)
end
theorem lit_C (W : World) (l : List Int) (hl : l.length ≤ 64) (cs : Array Value) (hc : cs = (nums .i64 l).toArray) : Kd.C (Kd.int .i64) (W.alloc (.cells cs 3)) (some ⟨W.heap.size, 0, none⟩) l.length l := by
  subst hc
  have ho := own_lit W 0 3 .i64 l (Nat.zero_le _) (by omega)
  obtain ⟨A, c, e, _, hC⟩ := Kd.R_reads (Kd.R_of_own (h1 := fun _ => rfl) (ok := fun _ => True) (enc := Value.int .i64) ho (fun _ _ => trivial))
  injection e with e1 _ _
  subst e1
  exact hC
theorem lit_R (W : World) (x : Int) : ReadsInt (W.alloc (.cells #[.int .i64 x] 3)) .i64 (some ⟨W.heap.size, 0, none⟩) 1 [x] := by
  have ho := own_lit W 0 3 .i64 [x] (Nat.zero_le _) (by simp)
  exact own_reads' ho
section
variable {W W' : World} {base g : Nat} {Ac : Option Addr} {cc : Nat} {code : List In} {p : Value} {f0 f : Nat → Prop} {u1 u2 v1 : Value} {op a : Int} {s : St} {m : Mem} {E : Option Addr} {c : Nat}
variable {ops : Array Oper} {rest : List Oper} {oo : Oper} {act : Act} {Q : Exit → Act → World → Prop}
theorem SE.appc (h : SE W base g Ac cc code p f0 u1 u2 op a f v1 (.slice E s.ca.length c) s m W') (hf : ∀ k, f k → k < W.heap.size ∨ W.heap.size + 3 ≤ k) (hl : s.ca.length ≤ 32) (x : Int) (hgd : oo.guard = none) (sv xv : Operand)
    (ho : oo.op = .call { callee := .builtin .append, args := #[sv, xv], argTypes := #[23, 23] }) (hs : act.eval sv = .slice E s.ca.length c) (hx : act.eval xv = .slice (some ⟨W'.heap.size, 0, none⟩) 1 1)
    (k : ∀ E6 c6 w6, SE W base g Ac cc code p f0 u1 u2 op a f v1 (.slice E6 (s.ca.length + 1) c6) ⟨s.pc, s.st, s.ca ++ [x]⟩ m (w6.setCell ⟨g, 3, none⟩ (.slice E6 (s.ca.length + 1) c6)) → w6.cell? ⟨g, 3, none⟩ = some (.slice E s.ca.length c) → w6.frozen? ⟨g, 3, none⟩ = false → (w6.cell? ⟨W.heap.size, 0, none⟩ = some (.int .i64 0) ∧ w6.cell? ⟨W.heap.size, 1, none⟩ = some (.int .i64 0) ∧ w6.cell? ⟨W.heap.size, 2, none⟩ = some (.int .i64 0) ∧ w6.frozen? ⟨W.heap.size, 0, none⟩ = false ∧ w6.frozen? ⟨W.heap.size, 1, none⟩ = false ∧ w6.frozen? ⟨W.heap.size, 2, none⟩ = false ∧ w6.cell? ⟨W.heap.size + 2, 0, none⟩ = some (.int .i64 op) ∧ w6.cell? ⟨W.heap.size + 2, 1, none⟩ = some (.int .i64 a) ∧ w6.frozen? ⟨g, 1, none⟩ = false ∧ w6.cell? ⟨g, 1, none⟩ = some (.int .i64 s.pc)) →
      wpList Try.prog ops Q rest (act.put oo.dst (.slice E6 (s.ca.length + 1) c6)) w6) : wpList Try.prog ops Q (oo :: rest) act (W'.alloc (.cells #[.int .i64 x] 3)) := by
  have h5 := h.step (below_alloc (Below.refl W'.heap.size W') (.cells #[.int .i64 x] 3))
  have hb : base ≤ (W'.alloc (.cells #[.int .i64 x] 3)).heap.size := Nat.le_trans h5.bw h5.mv.size
  refine print_append_row (w0 := W'.alloc (.cells #[.int .i64 x] 3)) base hgd sv xv 23 3 .i64 8 ho Try.underlying23 infoI (by decide) (.slice E s.ca.length c) s.ca [x] (some ⟨W'.heap.size, 0, none⟩) 1 1 hs hx h5.m.cal (lit_R W' x) (Below.mono (Below.refl _ _) hb) hb (by omega) ?_
  intro v6 w6 ho _ hg hat
  have hx6 := h5.called hf ho hg hat
  obtain ⟨E6, c6, e6⟩ : ∃ E6 c6, v6 = .slice E6 (s.ca.length + 1) c6 := by have h_ := own_slice hx6.m.cal; rwa [List.length_append] at h_
  subst e6
  have r1 := blk_grown h5.res hg (fun e => h5.not _ _ _ h5.res (.inl rfl) (h5.old hf).1 (.inr (.inr (.inl e.symm))))
  have r2 := blk_grown h5.ins hg (fun e => h5.not _ _ _ h5.ins (.inr rfl) (h5.old hf).2.2 (.inr (.inr (.inl e.symm))))
  have r3 := blk_grown h5.m.box hg h5.m.nc
  exact k E6 c6 w6 hx6 (blk_cell r3 3) (blk_frozen r3 3) ⟨blk_cell r1 0, blk_cell r1 1, blk_cell r1 2, blk_frozen r1 0, blk_frozen r1 1, blk_frozen r1 2, blk_cell r2 0, blk_cell r2 1, blk_frozen r3 1, blk_cell r3 1⟩
end
theorem ret_row {w : World} {base e c : Nat} {l : List Int} (hl : l.length ≠ 0) (ho : w.ownsRow base 3 1 (.slice (some ⟨e, 0, none⟩) l.length c) l.length (nums .i64 l)) :
    w.cell? ⟨e, l.length - 1, none⟩ = some (.int .i64 (lastP l 0)) ∧ w.ownsRow base 3 1 (.slice (some ⟨e, 0, none⟩) (l.length - 1) c) (cutP l 1).length (nums .i64 (cutP l 1)) := by
  have h1 := (own_at ho ((l.length - 1 : Nat) : Int) (by omega) (by omega)).1
  rw [Int.toNat_natCast] at h1
  have e1 : rd l ((l.length - 1 : Nat) : Int) = lastP l 0 := by unfold rd lastP; rw [Int.toNat_natCast]; rfl
  rw [e1] at h1
  refine ⟨h1, ?_⟩
  have := own_take ho (show l.length - 1 ≤ l.length by omega)
  rw [cutP_len]
  simpa [nums, cutP, List.map_take] using this
theorem told_end {W W1 : World} {base g : Nat} {Ac : Option Addr} {cc : Nat} {code : List In} {p : Value} {f : Nat → Prop} {v1 v2 : Value} {s : St} {m : Mem} (h : Mach W base g Ac cc code p f v1 v2 s m) (hbase : base ≤ W.heap.size) (hb1 : Below W.heap.size W W1)
    (y0 : W1.heap[W.heap.size]? = some (.cells #[.int .i64 0, .int .i64 0, .int .i64 0] 33 (0, 0))) (q : Nat) :
    StepPost W base g Ac cc code p f v1 v2 (s, m, 4, 0) (.returned (.agg #[.int .i64 4, .int .i64 0, .int .i64 0])) ((((W1.drewN q).setCell ⟨W.heap.size, 0, none⟩ (.int .i64 4)).setCell ⟨W.heap.size, 1, none⟩ (.int .i64 0)).setCell ⟨W.heap.size, 2, none⟩ (.int .i64 0)) := by
  have hb2 : Below W.heap.size W ((((W1.drewN q).setCell ⟨W.heap.size, 0, none⟩ (.int .i64 4)).setCell ⟨W.heap.size, 1, none⟩ (.int .i64 0)).setCell ⟨W.heap.size, 2, none⟩ (.int .i64 0)) :=
    (((pw_below_drewN hb1 q).setCell (p := ⟨W.heap.size, 0, none⟩) (Nat.le_refl _) _).setCell (p := ⟨W.heap.size, 1, none⟩) (Nat.le_refl _) _).setCell (p := ⟨W.heap.size, 2, none⟩) (Nat.le_refl _) _
  exact ⟨v1, v2, f, rfl, h.step hb2, Mv.of_below hb2 _, .inl rfl, .inl rfl, fun k e => .inl e⟩
end Go.Proofs.Ytbdamgopggeikaa.VmW
