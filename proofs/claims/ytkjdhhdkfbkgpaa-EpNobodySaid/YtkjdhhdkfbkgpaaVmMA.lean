/- The machine in memory: its box, its rows, its code, its memory; last, leave, has. The machine's leave: so many numbers off the stack, others on. The machine's has: are there as many numbers as an instruction takes, and room. May a code be, may a state be, a state's copy. code.Check, vm.may, vm.copied. vm.may, slices.Clone at ints, vm.copied. The machine's step: what is carried. -/
import Derived.Test.YtkjdhhdkfbkgpaaMemEE
import Derived.Test.YtkjdhhdkfbkgpaaShelf
namespace Go.Proofs.Ytkjdhhdkfbkgpaa.VmW
open Go.RowKit Go.Proofs.YtkjdhhdkfbkgpaaW.PrintWords Go.Proofs.YtkjdhhdkfbkgpaaW.PrintMore Go.Proofs.YtkjdhhdkfbkgpaaW.PrintLast Go.Proofs.Ytkjdhhdkfbkgpaa.Pvm
set_option linter.unusedVariables false
set_option linter.unusedSimpArgs false
theorem infoI : (Try.prog.info? 3).map (fun i => (i.zero, i.size, i.bytes)) = some (some (.int .i64 0), 1, 8) := by kernel_rfl
def memI (p : Value) : Value := .iface 94 p
structure Mach (W : World) (base g : Nat) (Ac : Option Addr) (cc : Nat) (code : List In) (p : Value) (f : Nat → Prop) (v1 v2 : Value) (s : St) (m : Mem) : Prop where
  box : W.heap[g]? = some (.cells #[.slice Ac code.length cc, .int .i64 s.pc, v1, v2, memI p] 114 (0, 0))
  cde : Kd.C kIn W Ac code.length code
  far : ∀ ad, Ac = some ad → 0 < code.length → ad.block < base ∧ ¬ f ad.block
  gb : base ≤ g
  stk : W.ownsRow base 3 1 v1 s.st.length (nums .i64 s.st)
  cal : W.ownsRow base 3 1 v2 s.ca.length (nums .i64 s.ca)
  ne : NeRow v1 v2
  mem : MemP W p f m
  memf : ∀ k, f k → k ≠ g ∧ v1.ownBlock ≠ some k ∧ v2.ownBlock ≠ some k
def mS (g : Nat) (v1 v2 : Value) (f : Nat → Prop) (k : Nat) : Prop := k = g ∨ v1.ownBlock = some k ∨ v2.ownBlock = some k ∨ f k
section
variable {W W' : World} {base g : Nat} {Ac : Option Addr} {cc : Nat} {code : List In} {p : Value} {f : Nat → Prop} {v1 v2 : Value} {s : St} {m : Mem}
theorem kIn_any {W W' : World} {x : In} {cs : List Value} (h : kIn.K W x cs) : kIn.K W' x cs := by
  obtain rfl := k27_open h
  exact k27_mk W' x
theorem Mach.gl (h : Mach W base g Ac cc code p f v1 v2 s m) : g < W.heap.size := blk_lt h.box
theorem Mach.ns (h : Mach W base g Ac cc code p f v1 v2 s m) : some g ≠ v1.ownBlock := own_ne h.stk h.box (by decide)
theorem Mach.nc (h : Mach W base g Ac cc code p f v1 v2 s m) : some g ≠ v2.ownBlock := own_ne h.cal h.box (by decide)
/-- A world in which none of the machine's blocks has been turned. -/
theorem Mach.step (h : Mach W base g Ac cc code p f v1 v2 s m) (hb : Below W.heap.size W W') : Mach W' base g Ac cc code p f v1 v2 s m := by
  have hm := Mv.of_below hb (fun _ => False)
  exact ⟨hm.blk h.box (fun e => e), Kd.C_below h.cde hb, h.far, h.gb, hm.own h.stk (fun _ _ e => e), hm.own h.cal (fun _ _ e => e), h.ne, h.mem.mv hm (fun _ _ e => e), h.memf⟩
/-- The box alone has been turned. -/
theorem Mach.set (h : Mach W base g Ac cc code p f v1 v2 s m) (j : Nat) (u : Value) : Kd.C kIn (W.setCell ⟨g, j, none⟩ u) Ac code.length code ∧ (W.setCell ⟨g, j, none⟩ u).ownsRow base 3 1 v1 s.st.length (nums .i64 s.st) ∧ (W.setCell ⟨g, j, none⟩ u).ownsRow base 3 1 v2 s.ca.length (nums .i64 s.ca) ∧ MemP (W.setCell ⟨g, j, none⟩ u) p f m := by
  have hm : Mv W (W.setCell ⟨g, j, none⟩ u) (fun k => k = g) := (Mv.refl W (fun k => k = g)).set (p := ⟨g, j, none⟩) (.inl rfl) u
  exact ⟨hm.C kIn_any h.cde (fun ad e hp => by have := (h.far ad e hp).1; have := h.gb; omega), own_setCell h.stk h.ns u, own_setCell h.cal h.nc u, h.mem.mv hm (fun k hk => (h.memf k hk).1)⟩
theorem Mach.pc (h : Mach W base g Ac cc code p f v1 v2 s m) (x : Int) : Mach (W.setCell ⟨g, 1, none⟩ (.int .i64 x)) base g Ac cc code p f v1 v2 ⟨x, s.st, s.ca⟩ m :=
  ⟨blk_set h.box 1 _, (h.set 1 _).1, h.far, h.gb, (h.set 1 _).2.1, (h.set 1 _).2.2.1, h.ne, (h.set 1 _).2.2.2, h.memf⟩
/-- The stack has another row, which is not the other ones'. -/
theorem Mach.stack {v1' : Value} {l : List Int} {w1 : World} (h : Mach W base g Ac cc code p f v1 v2 s m) (ho : w1.ownsRow base 3 1 v1' l.length (nums .i64 l)) (hg : W.grownBy w1 v1.ownBlock) (hat : v1'.ownBlock = v1.ownBlock ∨ ∃ b, v1'.ownBlock = some b ∧ W.heap.size ≤ b) :
    Mach (w1.setCell ⟨g, 2, none⟩ v1') base g Ac cc code p f v1' v2 ⟨s.pc, l, s.ca⟩ m ∧ Mv W (w1.setCell ⟨g, 2, none⟩ v1') (mS g v1 v2 f) := by
  have hm1 : Mv W w1 (fun k => v1.ownBlock = some k) := Mv.of_grown hg (fun k e => .inl e)
  have hbx : w1.heap[g]? = _ := hm1.blk h.box (fun e => h.ns e.symm)
  have hm2 : Mv w1 (w1.setCell ⟨g, 2, none⟩ v1') (fun k => k = g) := (Mv.refl w1 (fun k => k = g)).set (p := ⟨g, 2, none⟩) (.inl rfl) _
  have hm : Mv W (w1.setCell ⟨g, 2, none⟩ v1') (fun k => k = g ∨ v1.ownBlock = some k) := (hm1.mono (S' := fun k => k = g ∨ v1.ownBlock = some k) (fun k e => .inl (.inr e))).trans hm2 (fun k e => .inl (.inl e))
  have hne1 : some g ≠ v1'.ownBlock := own_ne ho hbx (by decide)
  have hnew : ∀ k, v1'.ownBlock = some k → v1.ownBlock = some k ∨ W.heap.size ≤ k := fun k e => by
    rcases hat with hat | ⟨b, hb, hle⟩
    · exact .inl (hat ▸ e)
    · rw [hb] at e; exact .inr (by have := Option.some.inj e; omega)
  refine ⟨⟨blk_set hbx 2 _, hm.C kIn_any h.cde (fun ad e hp => ?_), h.far, h.gb, own_setCell ho hne1 _, hm.own h.cal (fun k e e2 => ?_), fun k e e2 => ?_, h.mem.mv hm (fun k hk e => ?_), fun k hk => ⟨(h.memf k hk).1, fun e => ?_, (h.memf k hk).2.2⟩⟩, hm.mono (fun k e => .inl (e.elim .inl (fun e => .inr (.inl e))))⟩
  · have h1 := (h.far ad e hp).1
    have h2 := h.gb
    rintro (e3 | e3)
    · omega
    · have := own_base h.stk _ e3; omega
  · rcases e2 with e2 | e2
    · exact h.nc (by rw [e, e2])
    · exact h.ne k e2 e
  · rcases hnew k e with e1 | e1
    · exact h.ne k e1 e2
    · have := own_lt h.cal k e2; omega
  · rcases e with e | e
    · exact (h.memf k hk).1 e
    · exact (h.memf k hk).2.1 e
  · rcases hnew k e with e1 | e1
    · exact (h.memf k hk).2.1 e1
    · have := h.mem.lt k hk; omega
/-- The calls have another row. -/
theorem Mach.call {v2' : Value} {l : List Int} {w1 : World} (h : Mach W base g Ac cc code p f v1 v2 s m) (ho : w1.ownsRow base 3 1 v2' l.length (nums .i64 l)) (hg : W.grownBy w1 v2.ownBlock) (hat : v2'.ownBlock = v2.ownBlock ∨ ∃ b, v2'.ownBlock = some b ∧ W.heap.size ≤ b) :
    Mach (w1.setCell ⟨g, 3, none⟩ v2') base g Ac cc code p f v1 v2' ⟨s.pc, s.st, l⟩ m ∧ Mv W (w1.setCell ⟨g, 3, none⟩ v2') (mS g v1 v2 f) := by
  have hm1 : Mv W w1 (fun k => v2.ownBlock = some k) := Mv.of_grown hg (fun k e => .inl e)
  have hbx : w1.heap[g]? = _ := hm1.blk h.box (fun e => h.nc e.symm)
  have hm2 : Mv w1 (w1.setCell ⟨g, 3, none⟩ v2') (fun k => k = g) := (Mv.refl w1 (fun k => k = g)).set (p := ⟨g, 3, none⟩) (.inl rfl) _
  have hm : Mv W (w1.setCell ⟨g, 3, none⟩ v2') (fun k => k = g ∨ v2.ownBlock = some k) := (hm1.mono (S' := fun k => k = g ∨ v2.ownBlock = some k) (fun k e => .inl (.inr e))).trans hm2 (fun k e => .inl (.inl e))
  have hne1 : some g ≠ v2'.ownBlock := own_ne ho hbx (by decide)
  have hnew : ∀ k, v2'.ownBlock = some k → v2.ownBlock = some k ∨ W.heap.size ≤ k := fun k e => by
    rcases hat with hat | ⟨b, hb, hle⟩
    · exact .inl (hat ▸ e)
    · rw [hb] at e; exact .inr (by have := Option.some.inj e; omega)
  refine ⟨⟨blk_set hbx 3 _, hm.C kIn_any h.cde (fun ad e hp => ?_), h.far, h.gb, hm.own h.stk (fun k e e2 => ?_), own_setCell ho hne1 _, fun k e e2 => ?_, h.mem.mv hm (fun k hk e => ?_), fun k hk => ⟨(h.memf k hk).1, (h.memf k hk).2.1, fun e => ?_⟩⟩, hm.mono (fun k e => .inl (e.elim .inl (fun e => .inr (.inr (.inl e)))))⟩
  · have h1 := (h.far ad e hp).1
    have h2 := h.gb
    rintro (e3 | e3)
    · omega
    · have := own_base h.cal _ e3; omega
  · rcases e2 with e2 | e2
    · exact h.ns (by rw [e, e2])
    · exact h.ne k e e2
  · rcases hnew k e2 with e1 | e1
    · exact h.ne k e e1
    · have := own_lt h.stk k e; omega
  · rcases e with e | e
    · exact (h.memf k hk).1 e
    · exact (h.memf k hk).2.2 e
  · rcases hnew k e with e1 | e1
    · exact (h.memf k hk).2.2 e1
    · have := h.mem.lt k hk; omega
/-- The memory has been turned. -/
theorem Mach.memory {m' : Mem} {f' : Nat → Prop} (h : Mach W base g Ac cc code p f v1 v2 s m) (hb : base ≤ W.heap.size) (hm : Mv W W' f) (hp : MemP W' p f' m') (hf : ∀ k, f' k → f k ∨ W.heap.size ≤ k) : Mach W' base g Ac cc code p f' v1 v2 s m' :=
  ⟨hm.blk h.box (fun e => (h.memf g e).1 rfl), hm.C kIn_any h.cde (fun ad e hp => (h.far ad e hp).2), fun ad e hp => ⟨(h.far ad e hp).1, fun e2 => (hf _ e2).elim (h.far ad e hp).2 (fun hle => by have := (h.far ad e hp).1; omega)⟩, h.gb, hm.own h.stk (fun k e e2 => (h.memf k e2).2.1 e), hm.own h.cal (fun k e e2 => (h.memf k e2).2.2 e), h.ne, hp,
   fun k hk => (hf k hk).elim (h.memf k) (fun hle => ⟨fun e => by have := h.gl; omega, fun e => by have := own_lt h.stk k e; omega, fun e => by have := own_lt h.cal k e; omega⟩)⟩
end
theorem row_some {W : World} {base n : Nat} {e : TypeId} {A : Option Addr} {c : Nat} {xs : List Value} (h : W.ownsRow base e 1 (.slice A n c) n xs) (hn : 0 < n) : ∃ b, A = some ⟨b, 0, none⟩ := by
  rcases h.2 with ⟨_, hz⟩ | ⟨b, cap, cur, e, _⟩
  · omega
  · injection e with e; exact ⟨b, e⟩
set_option maxHeartbeats 4000000 in
set_option maxRecDepth 100000 in
theorem last_calls (W : World) (base g b : Nat) (st : List Int) (c k : Nat) (u : Value) (ho : W.ownsRow base 3 1 (.slice (some ⟨b, 0, none⟩) st.length c) st.length (nums .i64 st)) (hc : W.cell? ⟨g, 2, none⟩ = some (.slice (some ⟨b, 0, none⟩) st.length c)) (hk : k < st.length) (hl : st.length ≤ 64) :
    Calls Try.prog 64 #[.pointer (some ⟨g, 0, none⟩), .int .i64 (k : Int)] W fun e W' => e = .returned (.int .i64 (lastP st k)) ∧ ∃ n, W' = W.drewN n := by
  have hi := (own_at ho ((st.length - 1 - k : Nat) : Int) (by omega) (by omega)).1
  rw [Int.toNat_natCast] at hi
  have hlast : rd st ((st.length - 1 - k : Nat) : Int) = lastP st k := by unfold rd lastP; rw [Int.toNat_natCast]
  rw [hlast] at hi
  have e1 : wrap64 ((st.length : Int) - 1) = (st.length : Int) - 1 := by unfold wrap64; omega
  have e2 : wrap64 ((st.length : Int) - 1 - (k : Int)) = ((st.length - 1 - k : Nat) : Int) := by unfold wrap64; omega
  have q0 : (0 : Int) ≤ ((st.length - 1 - k : Nat) : Int) := by omega
  have q1 : ((st.length - 1 - k : Nat) : Int) < (st.length : Int) := by omega
  have HO := Aside0.mk ho
  have HK := Aside0.mk hk
  generalize (st.length - 1 - k : Nat) = j at *
  generalize lastP st k = r at *
  clear ho hlast hk
  go_enter Try.func64, Try.ntmps64
  go_wp2
  go_quiet (fail)
  go_wp2
  go_ret
  exact ⟨rfl, _, rfl⟩
end Go.Proofs.Ytkjdhhdkfbkgpaa.VmW
namespace Go.Proofs.Ytkjdhhdkfbkgpaa.VmW
open Go.RowKit Go.Proofs.YtkjdhhdkfbkgpaaW.PrintWords Go.Proofs.YtkjdhhdkfbkgpaaW.PrintMore Go.Proofs.YtkjdhhdkfbkgpaaW.PrintLast Go.Proofs.Ytkjdhhdkfbkgpaa.Pvm
set_option linter.unusedVariables false
set_option linter.unusedSimpArgs false
section
variable {P : Program} {ops : Array Oper} {Q : Exit → Act → World → Prop} {o : Oper} {a : Act} {Kc : Act → World → Prop} {W : World}
theorem app_step (base : Nat) (hw : Region.wanted o (yielded ops a.tmps) = true) (s x : Operand) (t e : TypeId)
    (ho : o.op = .call { callee := .builtin .append, args := #[s, x], argTypes := #[t, t] })
    (ht : P.underlying t = some (.slice e)) (hinfo : (P.info? e).map (fun i => (i.zero, i.size, i.bytes)) = some (some (.int .i64 0), 1, 8))
    (v : Value) (xs ys : List Int) (A : Option Addr) (m c : Nat) (hs : a.eval s = v) (hx : a.eval x = .slice A m c)
    (HO : W.ownsRow base e 1 v xs.length (nums .i64 xs)) (HR : Kd.C (Kd.int .i64) W A m ys) (hbase : base ≤ W.heap.size) (hl : (xs.length + m) * 8 ≤ 140737488355328)
    (h : ∀ v1 w1, w1.ownsRow base e 1 v1 (xs ++ ys).length (nums .i64 (xs ++ ys)) → W.grownBy w1 v.ownBlock → (v1.ownBlock = v.ownBlock ∨ ∃ b, v1.ownBlock = some b ∧ W.heap.size ≤ b) → Kc (a.put o.dst v1) w1) :
    if Region.wanted o (yielded ops a.tmps) = true then Oper.wp P o a W Kc Q else Kc (a.put o.dst undef) W :=
  Kd.R_append_rows_step (Kd.int .i64) (Rr := (Kd.int .i64).K W) (w0 := W) base hw s x t e (.int .i64 0) 8 ho ht hinfo rfl (by decide) (by decide) v xs ys A m c (fun _ => True) (fun _ => True ∧ False) hs hx
    (Kd.R_of_own (h1 := fun _ => rfl) HO (fun _ _ => trivial)) HR (fun _ _ hk => hk) (fun _ hk => hk.2.elim) (fun _ _ => trivial) (Below.refl _ _) hbase hl
    (fun v1 w1 hR _ hg hat => h v1 w1 (Kd.own_of_R (h1 := fun _ => rfl) hR) hg hat)
end
theorem own_eq (B : Option Addr) (i j d e : Nat) : (Value.slice B i d).ownBlock = (Value.slice B j e).ownBlock := by cases B <;> rfl
theorem Mv.undrew {W W' : World} {S : Nat → Prop} (h : Mv W.drew W' S) : Mv W W' S := ⟨h.os, h.tape, h.output, h.size, h.block⟩
theorem Mv.undrewN {W W' : World} {n : Nat} {S : Nat → Prop} (h : Mv (W.drewN n) W' S) : Mv W W' S := ⟨h.os, h.tape, h.output, h.size, h.block⟩
def LeavePost (W : World) (base g : Nat) (Ac : Option Addr) (cc : Nat) (code : List In) (p : Value) (f : Nat → Prop) (v1 v2 : Value) (s : St) (m : Mem) (e : Ending) (W' : World) : Prop :=
  ∃ v1', e = .returned (.tuple #[]) ∧ Mach W' base g Ac cc code p f v1' v2 s m ∧ Mv W W' (mS g v1 v2 f) ∧ (v1'.ownBlock = v1.ownBlock ∨ ∃ b, v1'.ownBlock = some b ∧ W.heap.size ≤ b)
set_option maxHeartbeats 4000000 in
set_option maxRecDepth 100000 in
theorem leave_calls (W : World) (base g : Nat) (Ac : Option Addr) (cc : Nat) (code : List In) (p : Value) (f : Nat → Prop) (v1 v2 : Value) (s : St) (m : Mem) (h : Mach W base g Ac cc code p f v1 v2 s m) (hb : base ≤ W.heap.size) (t : Nat) (ht : t ≤ s.st.length) (hl : s.st.length ≤ 64)
    (A : Option Addr) (k c : Nat) (l : List Int) (hC : Kd.C (Kd.int .i64) W A k l) (hk : k ≤ 8) :
    Calls Try.prog 63 #[.pointer (some ⟨g, 0, none⟩), .int .i64 (t : Int), .slice A k c] W (LeavePost W base g Ac cc code p f v1 v2 ⟨s.pc, cutP s.st t ++ l, s.ca⟩ m) := by
  obtain ⟨B, d, rfl⟩ := own_slice h.stk
  have c0 := blk_cell h.box 2
  have r0 : W.cell? ⟨g, 2, none⟩ = some (.slice B s.st.length d) := c0
  have hcap := own_cap h.stk
  have e2 : wrap64 ((s.st.length : Int) - (t : Int)) = ((s.st.length - t : Nat) : Int) := by unfold wrap64; omega
  have hcut : W.ownsRow base 3 1 (.slice B (s.st.length - t) d) (cutP s.st t).length (nums .i64 (cutP s.st t)) := by
    have := own_take h.stk (show s.st.length - t ≤ s.st.length by omega)
    rw [cutP_len]
    simpa [nums, cutP, List.map_take] using this
  have HT := Aside0.mk hcut
  have HM := Aside0.mk h
  have HR := Aside0.mk hC
  have HB := Aside0.mk hb
  have HL := Aside0.mk (show (cutP s.st t).length + k ≤ 1000 by rw [cutP_len]; omega)
  have HN := Aside0.mk h.ns
  have q0 : (0 : Int) ≤ ((s.st.length - t : Nat) : Int) := by omega
  have q1 : ((s.st.length - t : Nat) : Int) ≤ (s.st.length : Int) := by omega
  have q2 : ((s.st.length - t : Nat) : Int) ≤ (d : Int) := by omega
  have q3 : s.st.length - t ≤ d := by omega
  generalize s.st.length - t = j at *
  clear h hcut hC hb ht hcap hl hk c0
  go_enter Try.func63, Try.ntmps63
  go_wp2
  refine start_ (n := 21) (S := fun w' => w'.cell? ⟨g, 2, none⟩ = some (.slice B s.st.length d)) (ds := [20]) #[false, false, false, false, false, false, false, false, false, false, false, false, false, false, false, false, false, false, false, false, false] (by kernel_rfl) rfl rfl (r0) (fun hHeld => ?_)
  refine pure_ (i := 0) (N := some 6) (v := ?_) (a' := ?_) #[true, false, false, false, false, false, false, false, false, false, false, false, false, false, false, false, false, false, false, false, false] rfl rfl (by kernel_rfl) (fun _ _ _ h => h) (Or.inl ⟨by rfl, ?_⟩) ?_ ?_
  rotate_left
  · intro w'
    go_simp
    with_reducible rfl
  rotate_left
  · simp only [Act.put, List.setIfInBounds_toArray, List.set_cons_zero, List.set_cons_succ, i64_w, i32_w]
    rfl
  refine pure_ (i := 1) (N := some 7) (v := ?_) (a' := ?_) #[true, true, false, false, false, false, false, false, false, false, false, false, false, false, false, false, false, false, false, false, false] rfl rfl (by kernel_rfl) (fun _ _ _ h => h) (Or.inl ⟨by rfl, ?_⟩) ?_ ?_
  rotate_left
  · intro w'
    go_simp
    with_reducible rfl
  rotate_left
  · simp only [Act.put, List.setIfInBounds_toArray, List.set_cons_zero, List.set_cons_succ, i64_w, i32_w]
    rfl
  refine pure_ (i := 2) (N := some 8) (v := ?_) (a' := ?_) #[true, true, true, false, false, false, false, false, false, false, false, false, false, false, false, false, false, false, false, false, false] rfl rfl (by kernel_rfl) (fun _ _ _ h => h) (Or.inl ⟨by rfl, ?_⟩) ?_ ?_
  rotate_left
  · intro w'
    go_simp
    with_reducible rfl
  rotate_left
  · simp only [Act.put, List.setIfInBounds_toArray, List.set_cons_zero, List.set_cons_succ, i64_w, i32_w]
    rfl
  refine pure_ (i := 3) (N := some 9) (v := ?_) (a' := ?_) #[true, true, true, true, false, false, false, false, false, false, false, false, false, false, false, false, false, false, false, false, false] rfl rfl (by kernel_rfl) (fun _ _ _ h => h) (Or.inl ⟨by rfl, ?_⟩) ?_ ?_
  rotate_left
  · intro w'
    go_simp
    with_reducible rfl
  rotate_left
  · simp only [Act.put, List.setIfInBounds_toArray, List.set_cons_zero, List.set_cons_succ, i64_w, i32_w]
    rfl
  refine pure_ (i := 4) (N := some 10) (v := ?_) (a' := ?_) #[true, true, true, true, true, false, false, false, false, false, false, false, false, false, false, false, false, false, false, false, false] rfl rfl (by kernel_rfl) (fun _ _ _ h => h) (Or.inl ⟨by rfl, ?_⟩) ?_ ?_
  rotate_left
  · intro w'
    go_simp
    with_reducible rfl
  rotate_left
  · simp only [Act.put, List.setIfInBounds_toArray, List.set_cons_zero, List.set_cons_succ, i64_w, i32_w]
    rfl
  refine pure_ (i := 6) (N := some 12) (v := ?_) (a' := ?_) #[true, true, true, true, true, false, true, false, false, false, false, false, false, false, false, false, false, false, false, false, false] rfl rfl (by kernel_rfl) (fun _ _ _ h => h) (Or.inl ⟨by rfl, ?_⟩) ?_ ?_
  rotate_left
  · intro w'
    go_simp
    with_reducible rfl
  rotate_left
  · simp only [Act.put, List.setIfInBounds_toArray, List.set_cons_zero, List.set_cons_succ, i64_w, i32_w]
    rfl
  refine pure_ (i := 7) (N := some 13) (v := ?_) (a' := ?_) #[true, true, true, true, true, false, true, true, false, false, false, false, false, false, false, false, false, false, false, false, false] rfl rfl (by kernel_rfl) (fun _ _ _ h => h) (Or.inl ⟨by rfl, ?_⟩) ?_ ?_
  rotate_left
  · intro w'
    go_simp
    with_reducible rfl
  rotate_left
  · simp only [Act.put, List.setIfInBounds_toArray, List.set_cons_zero, List.set_cons_succ, i64_w, i32_w]
    rfl
  refine pure_ (i := 8) (N := some 14) (v := ?_) (a' := ?_) #[true, true, true, true, true, false, true, true, true, false, false, false, false, false, false, false, false, false, false, false, false] rfl rfl (by kernel_rfl) (fun _ _ _ h => h) (Or.inl ⟨by rfl, ?_⟩) ?_ ?_
  rotate_left
  · intro w'
    go_simp
    with_reducible rfl
  rotate_left
  · simp only [Act.put, List.setIfInBounds_toArray, List.set_cons_zero, List.set_cons_succ, i64_w, i32_w]
    rfl
  refine pure_ (i := 9) (N := some 15) (v := ?_) (a' := ?_) #[true, true, true, true, true, false, true, true, true, true, false, false, false, false, false, false, false, false, false, false, false] rfl rfl (by kernel_rfl) (fun _ _ _ h => h) (Or.inl ⟨by rfl, ?_⟩) ?_ ?_
  rotate_left
  · intro w'
    go_simp
    with_reducible rfl
  rotate_left
  · simp only [Act.put, List.setIfInBounds_toArray, List.set_cons_zero, List.set_cons_succ, i64_w, i32_w]
    rfl
  refine pure_ (i := 12) (N := some 18) (v := ?_) (a' := ?_) #[true, true, true, true, true, false, true, true, true, true, false, false, true, false, false, false, false, false, false, false, false] rfl rfl (by kernel_rfl) (fun _ _ _ h => h) (Or.inl ⟨by rfl, ?_⟩) ?_ ?_
  rotate_left
  · intro w'
    go_simp
    with_reducible rfl
  rotate_left
  · simp only [Act.put, List.setIfInBounds_toArray, List.set_cons_zero, List.set_cons_succ, i64_w, i32_w]
    rfl
  refine pure_ (i := 15) (N := some 21) (v := ?_) (a' := ?_) #[true, true, true, true, true, false, true, true, true, true, false, false, true, false, false, true, false, false, false, false, false] rfl rfl (by kernel_rfl) (fun _ _ _ h => h) (Or.inl ⟨by rfl, ?_⟩) ?_ ?_
  rotate_left
  · intro w'
    go_simp
    with_reducible rfl
  rotate_left
  · simp only [Act.put, List.setIfInBounds_toArray, List.set_cons_zero, List.set_cons_succ, i64_w, i32_w]
    rfl
  refine take_ (i := 5) (N := some 11) (v := ?_) (a' := ?_) #[true, true, true, true, true, true, true, true, true, true, false, false, true, false, false, true, false, false, false, false, false] rfl rfl (by kernel_rfl) (fun _ _ _ h => h) (Or.inl ⟨by rfl, ?_⟩) hHeld ?_ ?_
  rotate_left
  · intro w' s0
    go_simp
    with_reducible rfl
  rotate_left
  · simp only [Act.put, List.setIfInBounds_toArray, List.set_cons_zero, List.set_cons_succ, i64_w, i32_w]
    rfl
  refine take_ (i := 10) (N := some 16) (v := ?_) (a' := ?_) #[true, true, true, true, true, true, true, true, true, true, true, false, true, false, false, true, false, false, false, false, false] rfl rfl (by kernel_rfl) (fun _ _ _ h => h) (Or.inl ⟨by rfl, ?_⟩) hHeld ?_ ?_
  rotate_left
  · intro w' s0
    go_simp
    with_reducible rfl
  rotate_left
  · simp only [Act.put, List.setIfInBounds_toArray, List.set_cons_zero, List.set_cons_succ, i64_w, i32_w]
    rfl
  refine pure_ (i := 11) (N := some 17) (v := ?_) (a' := ?_) #[true, true, true, true, true, true, true, true, true, true, true, true, true, false, false, true, false, false, false, false, false] rfl rfl (by kernel_rfl) (fun _ _ _ h => h) (Or.inl ⟨by rfl, ?_⟩) ?_ ?_
  rotate_left
  · intro w'
    go_simp
    with_reducible rfl
  rotate_left
  · simp only [Act.put, List.setIfInBounds_toArray, List.set_cons_zero, List.set_cons_succ, i64_w, i32_w]
    rfl
  refine pure_ (i := 13) (N := some 19) (v := ?_) (a' := ?_) #[true, true, true, true, true, true, true, true, true, true, true, true, true, true, false, true, false, false, false, false, false] rfl rfl (by kernel_rfl) (fun _ _ _ h => h) (Or.inl ⟨by rfl, ?_⟩) ?_ ?_
  rotate_left
  · intro w'
    go_simp
    with_reducible rfl
  rotate_left
  · simp only [Act.put, List.setIfInBounds_toArray, List.set_cons_zero, List.set_cons_succ, i64_w, i32_w]
    rfl
  refine pure_ (i := 14) (N := some 20) (v := ?_) (a' := ?_) #[true, true, true, true, true, true, true, true, true, true, true, true, true, true, true, true, false, false, false, false, false] rfl rfl (by kernel_rfl) (fun _ _ _ h => h) (Or.inl ⟨by rfl, ?_⟩) ?_ ?_
  rotate_left
  · intro w'
    go_simp
    with_reducible rfl
  rotate_left
  · simp only [Act.put, List.setIfInBounds_toArray, List.set_cons_zero, List.set_cons_succ, i64_w, i32_w]
    rfl
  refine one_ (i := 16) (N := some 22) #[true, true, true, true, true, true, true, true, true, true, true, true, true, true, true, true, true, false, false, false, false] rfl rfl (by kernel_rfl) (by decide) (fun K hK => ?_)
  refine app_step base (by rfl) _ _ 33 3 (by rfl) Try.underlying33 infoI (.slice B j d) (cutP s.st t) l A k c (by rfl) (by rfl) HT.out (Kd.C_drew HR.out) HB.out (by have := HL.out; omega) ?_
  intro v1 w1 ho hg hat
  rw [own_eq B j s.st.length d d] at hg hat
  have x1 := (Mach.step HM.out (below_drew (Below.refl _ _))).stack ho hg hat
  have c1 : w1.cell? ⟨g, 2, none⟩ = some (.slice B s.st.length d) := cell_grown hg r0 HN.out
  have f1 : w1.frozen? ⟨g, 2, none⟩ = false := blk_frozen (blk_grown (w := W.drew) HM.out.box hg HN.out) 2
  have HX := Aside0.mk x1
  have HAT := Aside0.mk hat
  clear ho hg hat x1
  obtain ⟨Bx, dx, ex⟩ : ∃ Bx dx, v1 = .slice Bx ((cutP s.st t).length + l.length) dx := by have h_ := own_slice HX.out.1.stk; rwa [List.length_append] at h_
  subst ex
  refine hK.out _ _ (c1) (fun hHeld => ?_)
  clear hK K
  refine norm_ (a' := ?_) ?_ ?_
  rotate_left
  · show Act.put _ (some 22) _ = _
    simp only [Act.put, List.setIfInBounds_toArray, List.set_cons_zero, List.set_cons_succ, i64_w, i32_w]
    rfl
  refine pure_ (i := 17) (N := some 23) (v := ?_) (a' := ?_) #[true, true, true, true, true, true, true, true, true, true, true, true, true, true, true, true, true, true, false, false, false] rfl rfl (by kernel_rfl) (fun _ _ _ h => h) (Or.inl ⟨by rfl, ?_⟩) ?_ ?_
  rotate_left
  · intro w'
    go_simp
    with_reducible rfl
  rotate_left
  · simp only [Act.put, List.setIfInBounds_toArray, List.set_cons_zero, List.set_cons_succ, i64_w, i32_w]
    rfl
  refine pure_ (i := 18) (N := some 24) (v := ?_) (a' := ?_) #[true, true, true, true, true, true, true, true, true, true, true, true, true, true, true, true, true, true, true, false, false] rfl rfl (by kernel_rfl) (fun _ _ _ h => h) (Or.inl ⟨by rfl, ?_⟩) ?_ ?_
  rotate_left
  · intro w'
    go_simp
    with_reducible rfl
  rotate_left
  · simp only [Act.put, List.setIfInBounds_toArray, List.set_cons_zero, List.set_cons_succ, i64_w, i32_w]
    rfl
  refine pure_ (i := 19) (N := some 25) (v := ?_) (a' := ?_) #[true, true, true, true, true, true, true, true, true, true, true, true, true, true, true, true, true, true, true, true, false] rfl rfl (by kernel_rfl) (fun _ _ _ h => h) (Or.inl ⟨by rfl, ?_⟩) ?_ ?_
  rotate_left
  · intro w'
    go_simp
    with_reducible rfl
  rotate_left
  · simp only [Act.put, List.setIfInBounds_toArray, List.set_cons_zero, List.set_cons_succ, i64_w, i32_w]
    rfl
  refine last_ (i := 20) (N := none) #[true, true, true, true, true, true, true, true, true, true, true, true, true, true, true, true, true, true, true, true, true] rfl rfl (by kernel_rfl) (by decide) (fun K hK => ?_)
  refine skip_ (w1 := ?_) (by rfl) rfl ?_ ?_
  rotate_left
  · go_simp
    rfl
  refine hK.out _ _ ?_
  clear hK K
  refine done_ (by kernel_rfl) ?_

  go_end0
  exact ⟨_, rfl, HX.out.1, HX.out.2.undrew, HAT.out⟩
end Go.Proofs.Ytkjdhhdkfbkgpaa.VmW
namespace Go.Proofs.Ytkjdhhdkfbkgpaa.VmW
open Go.RowKit Go.Proofs.YtkjdhhdkfbkgpaaW.PrintWords Go.Proofs.YtkjdhhdkfbkgpaaW.PrintMore Go.Proofs.YtkjdhhdkfbkgpaaW.PrintLast Go.Proofs.Ytkjdhhdkfbkgpaa.Pvm
set_option linter.unusedVariables false
set_option linter.unusedSimpArgs false
def BPost (W : World) (b : Bool) (e : Ending) (W' : World) : Prop := e = .returned (.bool b) ∧ Below W.heap.size W W'
theorem bpost {W W' : World} {b c : Bool} {e : Ending} (he : e = .returned (.bool c)) (hb : Below W.heap.size W W') (hc : c = b) : BPost W b e W' := ⟨hc ▸ he, hb⟩
theorem one_of {op : Int} : op = 1 ∨ op = 3 ∨ op = 2 ∨ op = 17 ∨ op = 18 ∨ op = 21 ∨ op = 20 ∨ op = 22 ∨ op = 23 ∨ op = 24 ∨ op = 25 ∨ (op ≠ 1 ∧ op ≠ 3 ∧ op ≠ 2 ∧ op ≠ 17 ∧ op ≠ 18 ∧ op ≠ 21 ∧ op ≠ 20 ∧ op ≠ 22 ∧ op ≠ 23 ∧ op ≠ 24 ∧ op ≠ 25) := by omega
set_option maxHeartbeats 4000000 in
set_option maxRecDepth 100000 in
theorem has_calls (W : World) (g : Nat) (A : Option Addr) (n c : Nat) (op a : Int) (hc : W.cell? ⟨g, 2, none⟩ = some (.slice A n c)) (hn : n ≤ 64) :
    Calls Try.prog 62 #[.pointer (some ⟨g, 0, none⟩), .agg #[.int .i64 op, .int .i64 a]] W (BPost W (hasP op a n)) := by
  have hu := Try.underlying27
  have hgl := World.block_lt_of_cell? W _ hc
  have hc1 : (W.alloc (.cells #[.int .i64 op, .int .i64 a] 27)).cell? ⟨g, 2, none⟩ = some (.slice A n c) := ((below_alloc (Below.refl W.heap.size W) _).cell (p := ⟨g, 2, none⟩) hgl).trans hc
  have HB := Aside0.mk (below_alloc (Below.refl W.heap.size W) (.cells #[.int .i64 op, .int .i64 a] 27))
  have HN := Aside0.mk hn
  have hn0 : (n : Int) ≤ 64 := by omega
  clear hc hgl hn
  rcases one_of (op := op) with rfl | rfl | rfl | rfl | rfl | rfl | rfl | rfl | rfl | rfl | rfl | ⟨n1, n3, n2, n17, n18, n21, n20, n22, n23, n24, n25⟩
  case inr.inl =>
    by_cases h : a < (n : Int)
    · have t0 : decide ((n : Int) > a) = true := decide_eq_true h
      have t1 : decide (a < (n : Int)) = true := decide_eq_true h
      have HH := Aside0.mk h
      clear h
      go_enter Try.func62, Try.ntmps62
      go_wp2
      go_ret
      exact bpost rfl HB.out (by have := HH.out; unfold hasP; simp [this]; try omega)
    · have t0 : decide ((n : Int) > a) = false := decide_eq_false h
      have t1 : decide (a < (n : Int)) = false := decide_eq_false h
      have HH := Aside0.mk h
      clear h
      go_enter Try.func62, Try.ntmps62
      go_wp2
      go_ret
      exact bpost rfl HB.out (by have := HH.out; unfold hasP; simp [this]; try omega)
  case inr.inr.inr.inr.inr.inr.inr.inr.inr.inr.inr =>
    have HE := Aside0.mk (And.intro n1 (And.intro n3 (And.intro n2 (And.intro n17 (And.intro n18 (And.intro n21 (And.intro n20 (And.intro n22 (And.intro n23 (And.intro n24 n25))))))))))
    replace n1 : (op == 1) = false := by simpa using n1
    replace n3 : (op == 3) = false := by simpa using n3
    replace n2 : (op == 2) = false := by simpa using n2
    replace n17 : (op == 17) = false := by simpa using n17
    replace n18 : (op == 18) = false := by simpa using n18
    replace n21 : (op == 21) = false := by simpa using n21
    replace n20 : (op == 20) = false := by simpa using n20
    replace n22 : (op == 22) = false := by simpa using n22
    replace n23 : (op == 23) = false := by simpa using n23
    replace n24 : (op == 24) = false := by simpa using n24
    replace n25 : (op == 25) = false := by simpa using n25
    go_enter Try.func62, Try.ntmps62
    go_wp2
    go_ret
    exact bpost rfl HB.out (by obtain ⟨a1, a2, a3, a4, a5, a6, a7, a8, a9, a10, a11⟩ := HE.out; unfold hasP; rw [if_neg a1, if_neg a2, if_neg (by omega), if_neg (by omega)]; rw [Bool.eq_iff_iff]; simp; omega)
  all_goals
    go_enter Try.func62, Try.ntmps62
    go_wp2
    go_ret
    exact bpost rfl HB.out (by unfold hasP; first | rfl | (simp; done) | (rw [Bool.eq_iff_iff]; simp; omega))
end Go.Proofs.Ytkjdhhdkfbkgpaa.VmW
namespace Go.Proofs.Ytkjdhhdkfbkgpaa.VmW
open Go.RowKit Go.Proofs.YtkjdhhdkfbkgpaaW.PrintWords Go.Proofs.YtkjdhhdkfbkgpaaW.PrintMore Go.Proofs.YtkjdhhdkfbkgpaaW.PrintLast Go.Proofs.Ytkjdhhdkfbkgpaa.Pvm
set_option linter.unusedVariables false
set_option linter.unusedSimpArgs false
theorem wx_code {f : Int} {a : Int} {W : World} {n : Nat} {b : Bool} (hb : okI ⟨f, a⟩ n = b) : Calls Try.prog 47 #[.agg #[.int .i64 f, .int .i64 a], .int .i64 (n : Int)] W (BPost W b) :=
  (code_may.calls 1 f a (n : Int) b W (by rw [← hb]; exact code_f ⟨f, a⟩ n)).mono fun _ _ h => h
/-- The test of one instruction: a literal that holds the code's address. -/
theorem chk1_calls (W : World) (q : Nat) (A : Option Addr) (n c : Nat) (i : In) (hc : W.cell? ⟨q, 0, none⟩ = some (.slice A n c)) :
    Calls Try.prog 46 #[.agg #[.int .i64 i.f0, .int .i64 i.f1], .pointer (some ⟨q, 0, none⟩)] W (BPost W (!okI i n)) := by
  have hgl := World.block_lt_of_cell? W _ hc
  have hb := below_alloc (Below.refl W.heap.size W) (.cells #[.int .i64 i.f0, .int .i64 i.f1] 27)
  have hc1 : (W.alloc (.cells #[.int .i64 i.f0, .int .i64 i.f1] 27)).cell? ⟨q, 0, none⟩ = some (.slice A n c) := (hb.cell (p := ⟨q, 0, none⟩) hgl).trans hc
  have HB := Aside0.mk hb
  have HK := Aside0.mk (wx_code (f := i.f0) (a := i.f1) (n := n) (W := W.alloc (.cells #[.int .i64 i.f0, .int .i64 i.f1] 27)) rfl)
  have hu := Try.underlying27
  clear hgl hb hc
  generalize okI ⟨i.f0, i.f1⟩ n = b at *
  go_enter Try.func46, Try.ntmps46
  go_wp2_with (go_at_call 47; (with_reducible refine HK.out.mono ?_); rintro e w1 ⟨rfl, hb⟩; have HB1 := Aside0.mk (below_step HB.out hb); clear hb)
  go_ret
  exact ⟨rfl, HB1.out⟩
theorem code_at {W : World} {A : Option Addr} {code : List In} (hC : Kd.C kIn W A code.length code) (hp : 0 < code.length) :
    ∃ b o, A = some ⟨b, o, none⟩ ∧ b < W.heap.size ∧ ∀ j, j < code.length → W.cell? ⟨b, o + j * 2, none⟩ = some (.int .i64 (inAt code (j : Int)).f0) ∧ W.cell? ⟨b, o + j * 2 + 1, none⟩ = some (.int .i64 (inAt code (j : Int)).f1) := by
  obtain ⟨b, o, rfl, hb, hc⟩ := Hand.row_at hC hp (by decide)
  refine ⟨b, o, rfl, hb, fun j hj => ?_⟩
  obtain ⟨c, hl, hk, hcell⟩ := hc j code[j] (List.getElem?_eq_getElem hj)
  obtain rfl := k27_open hk
  have e : inAt code (j : Int) = code[j] := by unfold inAt rd_T27; rw [Int.toNat_natCast, List.getD_eq_getElem?_getD, List.getElem?_eq_getElem hj]; rfl
  rw [e]
  exact ⟨hcell 0 _ rfl, hcell 1 _ rfl⟩
theorem inAt_get {code : List In} {j : Nat} (hj : j < code.length) : inAt code (j : Int) = code[j] := by unfold inAt rd_T27; rw [Int.toNat_natCast, List.getD_eq_getElem?_getD, List.getElem?_eq_getElem hj]; rfl
def IdxPost (W : World) (code : List In) (e : Ending) (W' : World) : Prop := ∃ r : Int, e = .returned (.int .i64 r) ∧ Below W.heap.size W W' ∧ ((r = -1 ∧ chkL code code.length code 0 = (0, 0)) ∨ (0 ≤ r ∧ chkL code code.length code 0 = (130, r)))
set_option maxHeartbeats 4000000 in
set_option maxRecDepth 100000 in
theorem idx_calls (W : World) (q : Nat) (A : Option Addr) (c : Nat) (code : List In) (hc : W.cell? ⟨q, 0, none⟩ = some (.slice A code.length c)) (hC : Kd.C kIn W A code.length code) (h0 : 0 < code.length) (h1 : code.length ≤ 1024) :
    Calls Try.prog 45 #[.slice A code.length c, .func (.func 46) #[] #[.pointer (some ⟨q, 0, none⟩)]] W (IdxPost W code) := by
  obtain ⟨b, o, rfl, hb, hcell⟩ := code_at hC h0
  have hql := World.block_lt_of_cell? W _ hc
  have HC := Aside0.mk hcell
  have HQ := Aside0.mk hc
  have HL := Aside0.mk (And.intro hb hql)
  have hlen : (code.length : Int) ≤ 1024 := by omega
  have HBW := Aside0.mk (Below.refl W.heap.size W)
  clear hcell hc hb hql hC
  go_enter Try.func45, Try.ntmps45
  go_wp2
  go_loopw [8] (fun i wr => ∃ k : Nat, k ≤ code.length ∧ i = .int .i64 k ∧ Aside0 (Below W.heap.size W wr) ∧ Aside0 (chkL code code.length code 0 = chkL code code.length (code.drop k) k)) (fun i _ => code.length - (intOf i).toNat)
  case atStart => exact ⟨0, Nat.zero_le _, rfl, HBW, ⟨by simp⟩⟩
  case round =>
    obtain ⟨k, hk, rfl, HB, HR⟩ := hrel
    by_cases hlt : k < code.length
    · have hd := List.drop_eq_getElem_cons hlt
      have e0 := inAt_get hlt
      have hc2 := HC.out k hlt
      have x0 := (HB.out.cell (p := ⟨b, o + k * 2, none⟩) HL.out.1).trans hc2.1
      have x1 := (HB.out.cell (p := ⟨b, o + k * 2 + 1, none⟩) HL.out.1).trans hc2.2
      have hq2 := (HB.out.cell (p := ⟨q, 0, none⟩) HL.out.2).trans HQ.out
      have HK := Aside0.mk (chk1_calls wr q (some ⟨b, o, none⟩) code.length c (inAt code (k : Int)) hq2)
      have HD := Aside0.mk (show chkL code code.length (code.drop k) k = if okI (inAt code (k : Int)) code.length = true then chkL code code.length (code.drop (k + 1)) (k + 1) else (130, (k : Int)) from by rw [hd, e0]; rfl)
      clear hd e0 hc2 hq2
      cases hok : okI (inAt code (k : Int)) code.length with
      | true =>
        rw [hok] at HK
        have HD2 := Aside0.mk (HD.out.trans (if_pos hok))
        clear hok HD
        go_wp2_with (go_at_call 46; (with_reducible refine HK.out.mono ?_); rintro e w1 ⟨rfl, hb⟩; have HB1 := Aside0.mk (below_step HB.out hb); clear hb)
        go_roundw
        case rel => exact ⟨k + 1, by omega, by go_num, HB1, ⟨HR.out.trans HD2.out⟩⟩
        case measure => simp [intOf]; omega
      | false =>
        rw [hok] at HK
        have HD2 := Aside0.mk (HD.out.trans (if_neg (by rw [hok]; simp)))
        clear hok HD
        go_wp2_with (go_at_call 46; (with_reducible refine HK.out.mono ?_); rintro e w1 ⟨rfl, hb⟩; have HB1 := Aside0.mk (below_step HB.out hb); clear hb)
        go_ret
        exact ⟨_, rfl, HB1.out, .inr ⟨by omega, HR.out.trans HD2.out⟩⟩
    · obtain rfl : k = code.length := by omega
      have HD := Aside0.mk (show chkL code code.length (code.drop code.length) code.length = (0, 0) from by rw [List.drop_length]; rfl)
      go_wp2
      go_ret
      exact ⟨_, rfl, HB.out, .inl ⟨rfl, HR.out.trans HD.out⟩⟩
end Go.Proofs.Ytkjdhhdkfbkgpaa.VmW
namespace Go.Proofs.Ytkjdhhdkfbkgpaa.VmW
open Go.RowKit Go.Proofs.YtkjdhhdkfbkgpaaW.PrintWords Go.Proofs.YtkjdhhdkfbkgpaaW.PrintMore Go.Proofs.YtkjdhhdkfbkgpaaW.PrintLast Go.Proofs.Ytkjdhhdkfbkgpaa.Pvm
set_option linter.unusedVariables false
set_option linter.unusedSimpArgs false
def TwoPost (W : World) (x y : Int) (e : Ending) (W' : World) : Prop := e = .returned (.tuple #[.int .i64 x, .int .i64 y]) ∧ Below W.heap.size W W'
theorem tpost {W W' : World} {x y x' y' : Int} {e : Ending} (he : e = .returned (.tuple #[.int .i64 x', .int .i64 y'])) (hb : Below W.heap.size W W') (hx : x' = x) (hy : y' = y) : TwoPost W x y e W' := ⟨hx ▸ hy ▸ he, hb⟩
set_option maxHeartbeats 4000000 in
set_option maxRecDepth 100000 in
theorem check_calls (W : World) (A : Option Addr) (c : Nat) (code : List In) (hC : Kd.C kIn W A code.length code) (hcap : code.length ≤ c) :
    Calls Try.prog 25 #[.slice A code.length c] W (TwoPost W (chkP code).1 (chkP code).2) := by
  have hmax := Kd.C_max hC
  have HB := Aside0.mk (below_alloc (Below.refl W.heap.size W) (.cells #[.slice A code.length c] 28))
  have HN := heap_alloc_new W (.cells #[.slice A code.length c] 28)
  have HC := Aside0.mk (Kd.C_alloc hC (.cells #[.slice A code.length c] 28))
  have hq : (W.alloc (.cells #[.slice A code.length c] 28)).cell? ⟨W.heap.size, 0, none⟩ = some (.slice A code.length c) := blk_cell HN 0
  clear hC HN hcap
  by_cases h0 : code.length < 1
  · have t0 : decide ((code.length : Int) < 1) = true := decide_eq_true (by omega)
    have HP := Aside0.mk (show chkP code = (2, 0) from by unfold chkP; rw [if_pos (.inl h0)])
    clear h0 hmax
    go_enter Try.func25, Try.ntmps25
    go_wp2
    go_ret2
    exact tpost rfl HB.out (by rw [HP.out]) (by rw [HP.out])
  · have t0 : decide ((code.length : Int) < 1) = false := decide_eq_false (by omega)
    by_cases h1 : 1024 < code.length
    · have t1 : decide ((code.length : Int) > 1024) = true := decide_eq_true (by omega)
      have t2 : decide (1024 < (code.length : Int)) = true := decide_eq_true (by omega)
      have HP := Aside0.mk (show chkP code = (2, 0) from by unfold chkP; rw [if_pos (.inr h1)])
      clear h0 hmax h1
      go_enter Try.func25, Try.ntmps25
      go_wp2
      go_ret2
      exact tpost rfl HB.out (by rw [HP.out]) (by rw [HP.out])
    · have t1 : decide ((code.length : Int) > 1024) = false := decide_eq_false (by omega)
      have t2 : decide (1024 < (code.length : Int)) = false := decide_eq_false (by omega)
      have HK := Aside0.mk (idx_calls _ W.heap.size A c code hq HC.out (by omega) (by omega))
      have HP := Aside0.mk (show chkP code = chkL code code.length code 0 from by unfold chkP; rw [if_neg (by omega)])
      clear h0 h1 hmax
      go_enter Try.func25, Try.ntmps25
      go_wp2_with (go_at_call 45; (with_reducible refine HK.out.mono ?_); rintro e w1 ⟨r, rfl, hb, hr⟩; have HB1 := Aside0.mk (below_step HB.out hb); have HR := Aside0.mk hr; clear hb hr)
      · go_ret2
        have h3 : r ≥ 0 := by assumption
        have h5 : chkP code = (130, r) := by
          rw [HP.out]
          rcases HR.out with ⟨h, _⟩ | ⟨_, h⟩
          · omega
          · exact h
        exact tpost rfl HB1.out (by rw [h5]) (by rw [h5])
      · go_ret2
        have h3 : ¬ r ≥ 0 := by first | assumption | (have h4 : r < 0 := by assumption); omega
        have h5 : chkP code = (0, 0) := by
          rw [HP.out]
          rcases HR.out with ⟨_, h⟩ | ⟨h, _⟩
          · exact h
          · omega
        exact tpost rfl HB1.out (by rw [h5]) (by rw [h5])
theorem ret_bool {a b : Bool} (h : a = b) : Ending.returned (.bool a) = .returned (.bool b) := by rw [h]
/-- odd. -/
theorem odd_calls (W : World) (q : Nat) (n : Int) (x : Int) (hc : W.cell? ⟨q, 0, none⟩ = some (.int .i64 n)) :
    Calls Try.prog 60 #[.int .i64 x, .pointer (some ⟨q, 0, none⟩)] W fun e W' => e = .returned (.bool (decide (x < 0 ∨ n < x))) ∧ W = W' := by
  by_cases h0 : x < 0
  · have t0 : decide (x < 0) = true := decide_eq_true h0
    have hd : decide (x < 0 ∨ n < x) = true := decide_eq_true (.inl h0)
    rw [hd]
    clear h0 hd
    go_enter Try.func60, Try.ntmps60
    go_wp2
    go_ret
    exact ⟨rfl, rfl⟩
  · have t0 : decide (x < 0) = false := decide_eq_false h0
    have hd : decide (x < 0 ∨ n < x) = decide (x > n) := by rw [Bool.eq_iff_iff]; simp; omega
    rw [hd]
    clear h0 hd
    generalize hb : decide (x > n) = b
    have hb' : decide (n < x) = b := hb
    go_enter Try.func60, Try.ntmps60
    go_wp2
    go_ret
    exact ⟨rfl, rfl⟩
theorem ints_at {w : World} {A : Option Addr} {xs : List Int} (h : Kd.C (Kd.int .i64) w A xs.length xs) (hp : 0 < xs.length) :
    ∃ b o, A = some ⟨b, o, none⟩ ∧ b < w.heap.size ∧ ∀ j, j < xs.length → w.cell? ⟨b, o + j, none⟩ = some (.int .i64 (xs.getD j 0)) := by
  obtain ⟨b, o, rfl, hb, hc⟩ := Hand.row_at h hp (by decide)
  refine ⟨b, o, rfl, hb, fun j hj => ?_⟩
  obtain ⟨c, hl, hk, hcell⟩ := hc j xs[j] (List.getElem?_eq_getElem hj)
  obtain rfl : c = [.int .i64 xs[j]] := hk
  have := hcell 0 _ rfl
  rw [show j * (Kd.int .i64).sz + 0 = j from Nat.mul_one j] at this
  rw [this, List.getD_eq_getElem?_getD, List.getElem?_eq_getElem hj]; rfl
def okB (n : Int) (l : List Int) : Prop := ∀ x ∈ l, 0 ≤ x ∧ x ≤ n
def IdxI (W : World) (n : Int) (l : List Int) (e : Ending) (W' : World) : Prop := ∃ r : Int, e = .returned (.int .i64 r) ∧ W = W' ∧ ((r = -1 ∧ okB n l) ∨ (0 ≤ r ∧ ¬ okB n l))
set_option maxHeartbeats 4000000 in
set_option maxRecDepth 100000 in
theorem idxi_calls (W : World) (q : Nat) (n : Int) (A : Option Addr) (c : Nat) (l : List Int) (hc : W.cell? ⟨q, 0, none⟩ = some (.int .i64 n)) (hC : Kd.C (Kd.int .i64) W A l.length l) (h1 : l.length ≤ 32) :
    Calls Try.prog 67 #[.slice A l.length c, .func (.func 60) #[] #[.pointer (some ⟨q, 0, none⟩)]] W (IdxI W n l) := by
  by_cases h0 : 0 < l.length
  · obtain ⟨b, o, rfl, hb, hcell⟩ := ints_at hC h0
    have HC := Aside0.mk hcell
    have HQ := Aside0.mk (fun x : Int => odd_calls W q n x hc)
    have hlen : (l.length : Int) ≤ 32 := by omega
    clear hcell hc hb hC
    go_enter Try.func67, Try.ntmps67
    go_wp2
    go_loop [8] (fun i => ∃ k : Nat, k ≤ l.length ∧ i = .int .i64 k ∧ Aside0 (okB n (l.take k))) (fun i => l.length - (intOf i).toNat)
    case atStart => exact ⟨0, Nat.zero_le _, rfl, ⟨by intro x hx; simp at hx⟩⟩
    case round =>
      obtain ⟨k, hk, rfl, HR⟩ := hrel
      by_cases hlt : k < l.length
      · have x0 := HC.out k hlt
        have HS := Aside0.mk (show l.take (k + 1) = l.take k ++ [l.getD k 0] from by rw [List.take_succ_eq_append_getElem hlt, List.getD_eq_getElem?_getD, List.getElem?_eq_getElem hlt]; rfl)
        have HM := Aside0.mk (show l.getD k 0 ∈ l from by rw [List.getD_eq_getElem?_getD, List.getElem?_eq_getElem hlt]; exact List.getElem_mem hlt)
        generalize l.getD k 0 = x at *
        by_cases hx : x < 0 ∨ n < x
        · have HK := Aside0.mk ((HQ.out x).mono fun (e : Ending) (w' : World) ⟨he, hw⟩ => (⟨by rw [he, decide_eq_true hx], hw⟩ : e = Ending.returned (.bool true) ∧ W = w'))
          have HX := Aside0.mk hx
          clear hx
          go_wp2_with (go_at_call 60; (with_reducible refine HK.out.mono ?_); rintro e w1 ⟨rfl, rfl⟩)
          go_ret
          exact ⟨_, rfl, rfl, .inr ⟨by omega, fun h => by have := h x HM.out; have := HX.out; omega⟩⟩
        · have HK := Aside0.mk ((HQ.out x).mono fun (e : Ending) (w' : World) ⟨he, hw⟩ => (⟨by rw [he, decide_eq_false hx], hw⟩ : e = Ending.returned (.bool false) ∧ W = w'))
          have HX := Aside0.mk hx
          clear hx
          go_wp2_with (go_at_call 60; (with_reducible refine HK.out.mono ?_); rintro e w1 ⟨rfl, rfl⟩)
          go_round
          case rel => exact ⟨k + 1, by omega, by go_num, ⟨by
            rw [HS.out]
            intro y hy
            rcases List.mem_append.1 hy with hy | hy
            · exact HR.out y hy
            · rw [List.mem_singleton.1 hy]; have := HX.out; omega⟩⟩
          case measure => simp [intOf]; omega
      · obtain rfl : k = l.length := by omega
        have HE := Aside0.mk (show okB n l from by have := HR.out; rwa [List.take_length] at this)
        go_wp2
        go_ret
        exact ⟨_, rfl, rfl, .inl ⟨rfl, HE.out⟩⟩
  · obtain rfl : l = [] := List.eq_nil_of_length_eq_zero (by omega)
    clear hC hc h0 h1
    simp only [List.length_nil]
    go_enter Try.func67, Try.ntmps67
    go_wp2
    go_loop [8] (fun i => i = .int .i64 0) (fun i => 0)
    case atStart => rfl
    case round =>
      obtain rfl := hrel
      go_wp2
      go_ret
      exact ⟨_, rfl, rfl, .inl ⟨rfl, by intro x hx; simp at hx⟩⟩
set_option maxHeartbeats 4000000 in
theorem cont_calls (W : World) (q : Nat) (n : Int) (A : Option Addr) (c : Nat) (l : List Int) (hc : W.cell? ⟨q, 0, none⟩ = some (.int .i64 n)) (hC : Kd.C (Kd.int .i64) W A l.length l) (h1 : l.length ≤ 32) (b : Bool) (hb : b = true ↔ ¬ okB n l) :
    Calls Try.prog 61 #[.slice A l.length c, .func (.func 60) #[] #[.pointer (some ⟨q, 0, none⟩)]] W fun e W' => e = .returned (.bool b) ∧ W = W' := by
  have HK := Aside0.mk (idxi_calls W q n A c l hc hC h1)
  have HH := Aside0.mk hb
  clear hC hc h1 hb
  go_enter Try.func61, Try.ntmps61
  go_wp2_with (go_at_call 67; (with_reducible refine HK.out.mono ?_); rintro e w1 ⟨r, rfl, rfl, hr⟩; have HR := Aside0.mk hr; clear hr)
  go_ret
  refine ⟨?_, rfl⟩
  have e : decide (r ≥ 0) = b := by
    have h := HH.out
    rcases HR.out with ⟨h2, h3⟩ | ⟨h2, h3⟩
    · cases hb : b with
      | true => exact absurd h3 (h.1 hb)
      | false => simp; omega
    · rw [h.2 h3]; simpa using h2
  exact ret_bool e
end Go.Proofs.Ytkjdhhdkfbkgpaa.VmW
namespace Go.Proofs.Ytkjdhhdkfbkgpaa.VmW
open Go.RowKit Go.Proofs.YtkjdhhdkfbkgpaaW.PrintWords Go.Proofs.YtkjdhhdkfbkgpaaW.PrintMore Go.Proofs.YtkjdhhdkfbkgpaaW.PrintLast Go.Proofs.Ytkjdhhdkfbkgpaa.Pvm
set_option linter.unusedVariables false
set_option linter.unusedSimpArgs false
instance (n : Int) (l : List Int) : Decidable (okB n l) := inferInstanceAs (Decidable (∀ x ∈ l, _))
theorem mayb {s : St} {n : Nat} {b : Bool} (h : b = decide (mayP s n)) {W W' : World} {e : Ending} (he : e = .returned (.bool b)) (hb : Below W.heap.size W W') : BPost W (decide (mayP s n)) e W' := ⟨h ▸ he, hb⟩
set_option maxHeartbeats 4000000 in
set_option maxRecDepth 100000 in
theorem may_calls (W : World) (s : St) (n : Nat) (A1 A2 : Option Addr) (c1 c2 : Nat) (h2 : Kd.C (Kd.int .i64) W A2 s.ca.length s.ca) :
    Calls Try.prog 52 #[.agg #[.int .i64 s.pc, .slice A1 s.st.length c1, .slice A2 s.ca.length c2], .int .i64 (n : Int)] W (BPost W (decide (mayP s n))) := by
  have hu := Try.underlying42
  have hb1 := below_alloc (below_alloc (Below.refl W.heap.size W) (.cells #[.int .i64 s.pc, .slice A1 s.st.length c1, .slice A2 s.ca.length c2] 42)) (.cells #[.int .i64 (n : Int)] 3)
  have hx := heap_alloc_new (W.alloc (.cells #[.int .i64 s.pc, .slice A1 s.st.length c1, .slice A2 s.ca.length c2] 42)) (.cells #[.int .i64 (n : Int)] 3)
  have hq := blk_cell hx 0
  have HK := Aside0.mk (fun x : Int => odd_calls _ (W.alloc (.cells #[.int .i64 s.pc, .slice A1 s.st.length c1, .slice A2 s.ca.length c2] 42)).heap.size (n : Int) x hq)
  have hC := Kd.C_below h2 hb1
  have HC := Aside0.mk hC
  have HB := Aside0.mk hb1
  have HQ := Aside0.mk hq
  have hz : (W.alloc (.cells #[.int .i64 s.pc, .slice A1 s.st.length c1, .slice A2 s.ca.length c2] 42)).heap.size = W.heap.size + 1 := by simp
  rw [hz] at HK HQ
  clear h2 hb1 hx hq hC hz
  by_cases g0 : s.pc < 0 ∨ (n : Int) < s.pc
  · have HK0 := Aside0.mk ((HK.out s.pc).mono fun (e : Ending) (w' : World) ⟨he, hw⟩ => (⟨by rw [he, decide_eq_true g0], hw⟩ : e = Ending.returned (.bool true) ∧ _ = w'))
    have HP := Aside0.mk (show false = decide (mayP s n) from by symm; apply decide_eq_false; rintro ⟨a, b, _⟩; omega)
    clear g0 HK
    go_enter Try.func52, Try.ntmps52
    go_wp2_with (go_at_call 60; (with_reducible refine HK0.out.mono ?_); rintro e w1 ⟨rfl, rfl⟩)
    go_ret
    exact mayb HP.out rfl HB.out
  have HK0 := Aside0.mk ((HK.out s.pc).mono fun (e : Ending) (w' : World) ⟨he, hw⟩ => (⟨by rw [he, decide_eq_false g0], hw⟩ : e = Ending.returned (.bool false) ∧ _ = w'))
  by_cases g1 : s.st.length ≤ 64
  case neg =>
    have t1 : decide ((s.st.length : Int) ≤ 64) = false := decide_eq_false (by omega)
    have HP := Aside0.mk (show false = decide (mayP s n) from by symm; apply decide_eq_false; rintro ⟨a, b, c, _⟩; omega)
    clear g0 g1 HK
    go_enter Try.func52, Try.ntmps52
    go_wp2_with (go_at_call 60; (with_reducible refine HK0.out.mono ?_); rintro e w1 ⟨rfl, rfl⟩)
    go_ret
    exact mayb HP.out rfl HB.out
  have t1 : decide ((s.st.length : Int) ≤ 64) = true := decide_eq_true (by omega)
  by_cases g2 : s.ca.length ≤ 32
  case neg =>
    have t2 : decide ((s.ca.length : Int) ≤ 32) = false := decide_eq_false (by omega)
    have HP := Aside0.mk (show false = decide (mayP s n) from by symm; apply decide_eq_false; rintro ⟨a, b, c, d, _⟩; omega)
    clear g0 g1 g2 HK
    go_enter Try.func52, Try.ntmps52
    go_wp2_with (go_at_call 60; (with_reducible refine HK0.out.mono ?_); rintro e w1 ⟨rfl, rfl⟩)
    go_ret
    exact mayb HP.out rfl HB.out
  have t2 : decide ((s.ca.length : Int) ≤ 32) = true := decide_eq_true (by omega)
  have HKC := Aside0.mk (cont_calls _ (W.heap.size + 1) (n : Int) A2 c2 s.ca HQ.out HC.out g2 (decide (¬ okB n s.ca)) (by simp))
  have HP := Aside0.mk (show (!decide (¬ okB n s.ca)) = decide (mayP s n) from by rw [Bool.eq_iff_iff]; simp; exact ⟨fun h => ⟨by omega, by omega, g1, g2, h⟩, fun h => h.2.2.2.2⟩)
  clear g0 g1 g2 HK
  generalize decide (¬ okB n s.ca) = b at *
  go_enter Try.func52, Try.ntmps52
  go_wp2_with (first
    | (go_at_call 60; (with_reducible refine HK0.out.mono ?_); rintro e w1 ⟨rfl, rfl⟩)
    | (go_at_call 61; (with_reducible refine HKC.out.mono ?_); rintro e w1 ⟨rfl, rfl⟩))
  go_ret
  exact mayb HP.out rfl HB.out
def ClPost (w : World) (l : List Int) (e : Ending) (w' : World) : Prop := ∃ A c, e = .returned (.slice A l.length c) ∧ w'.ownsRow w.heap.size 3 1 (.slice A l.length c) l.length (nums .i64 l) ∧ Below w.heap.size w w'
theorem clone_calls (A : Option Addr) (c : Nat) (l : List Int) (w : World) (hC : Kd.C (Kd.int .i64) w A l.length l) (hb : l.length * 8 ≤ 140737488355328) :
    Calls Try.prog 55 #[.slice A l.length c] w (ClPost w l) := by
  by_cases hp : 0 < l.length
  · obtain ⟨b, o, rfl, hbw, hcells⟩ := ints_at hC hp
    have hcl := Try.slices_Clone_int b o l.length c l w (Nat.le_refl _) hb hcells
    rw [List.take_length] at hcl
    refine hcl.mono ?_
    rintro e w' ⟨v, he, ho, _, hb⟩
    obtain ⟨A, c, rfl⟩ := own_slice ho
    exact ⟨A, c, he, ho, hb⟩
  · obtain rfl : l = [] := List.eq_nil_of_length_eq_zero (by omega)
    cases A with
    | none => exact (Try.slices_Clone_int_nil 0 c w).mono fun e w' ⟨he, hw⟩ => ⟨none, 0, he, by rw [hw]; exact own_nil _ _ _ _, by rw [hw]; exact Below.refl _ _⟩
    | some a =>
      refine (Try.slices_Clone_int_zero a c w).mono ?_
      rintro e w' ⟨v, he, ho, _, hb⟩
      obtain ⟨A, c, rfl⟩ := own_slice ho
      exact ⟨A, c, he, ho, hb⟩
def CopyPost (w : World) (s : St) (e : Ending) (w' : World) : Prop := ∃ A1 c1 A2 c2, e = .returned (.agg #[.int .i64 s.pc, .slice A1 s.st.length c1, .slice A2 s.ca.length c2]) ∧ w'.ownsRow w.heap.size 3 1 (.slice A1 s.st.length c1) s.st.length (nums .i64 s.st) ∧ w'.ownsRow w.heap.size 3 1 (.slice A2 s.ca.length c2) s.ca.length (nums .i64 s.ca) ∧ NeRow (.slice A1 s.st.length c1) (.slice A2 s.ca.length c2) ∧ Below w.heap.size w w'
set_option maxHeartbeats 4000000 in
set_option maxRecDepth 100000 in
theorem copied_calls (W : World) (s : St) (A1 A2 : Option Addr) (c1 c2 : Nat) (h1 : Kd.C (Kd.int .i64) W A1 s.st.length s.st) (h2 : Kd.C (Kd.int .i64) W A2 s.ca.length s.ca) (hb1 : s.st.length * 8 ≤ 140737488355328) (hb2 : s.ca.length * 8 ≤ 140737488355328) :
    Calls Try.prog 53 #[.agg #[.int .i64 s.pc, .slice A1 s.st.length c1, .slice A2 s.ca.length c2]] W (CopyPost W s) := by
  have hu := Try.underlying42
  generalize hW : ((W.alloc (.cells #[.int .i64 s.pc, .slice A1 s.st.length c1, .slice A2 s.ca.length c2] 42)).alloc (.cells #[.int .i64 0, .slice none 0 0, .slice none 0 0] 42)) = W1 at *
  have hb := below_alloc (below_alloc (Below.refl W.heap.size W) (.cells #[.int .i64 s.pc, .slice A1 s.st.length c1, .slice A2 s.ca.length c2] 42)) (.cells #[.int .i64 0, .slice none 0 0, .slice none 0 0] 42)
  rw [hW] at hb
  have x0 : W1.heap[W.heap.size]? = some (.cells #[.int .i64 s.pc, .slice A1 s.st.length c1, .slice A2 s.ca.length c2] 42 (0, 0)) := by
    rw [← hW]
    exact (heap_alloc_old _ _ (by simp)).trans (heap_alloc_new W _)
  have x1 : W1.heap[W.heap.size + 1]? = some (.cells #[.int .i64 0, .slice none 0 0, .slice none 0 0] 42 (0, 0)) := by
    rw [← hW]
    have := heap_alloc_new (W.alloc (.cells #[.int .i64 s.pc, .slice A1 s.st.length c1, .slice A2 s.ca.length c2] 42)) (.cells #[.int .i64 0, .slice none 0 0, .slice none 0 0] 42)
    simpa using this
  have r0 := blk_cell x0 0
  have r1 := blk_cell x0 1
  have r2 := blk_cell x0 2
  have g1 := Kd.C_below h1 hb
  have g2 := Kd.C_below h2 hb
  have HX := Aside0.mk (And.intro x0 x1)
  have HB := Aside0.mk hb
  have H1 := Aside0.mk g1
  have H2 := Aside0.mk g2
  have HL := Aside0.mk (And.intro hb1 hb2)
  clear h1 h2 hb1 hb2 hb g1 g2 x0 x1
  have hW' := Aside0.mk hW
  clear hW
  go_enter Try.func53, Try.ntmps53
  go_wp2
  rw [hW'.out]
  refine start_ (n := 10) (S := fun w' => w'.cell? ⟨W.heap.size, 0, none⟩ = some (.int .i64 s.pc) ∧ w'.cell? ⟨W.heap.size, 1, none⟩ = some (.slice A1 s.st.length c1) ∧ w'.cell? ⟨W.heap.size, 2, none⟩ = some (.slice A2 s.ca.length c2)) (ds := [9]) #[false, false, false, false, false, false, false, false, false, false] (by kernel_rfl) rfl rfl ⟨r0, r1, r2⟩ (fun hHeld => ?_)
  refine pure_ (i := 0) (N := some 3) (v := ?_) (a' := ?_) #[true, false, false, false, false, false, false, false, false, false] rfl rfl (by kernel_rfl) (fun _ _ _ h => h) (Or.inl ⟨by rfl, ?_⟩) ?_ ?_
  rotate_left
  · intro w'
    go_simp
    with_reducible rfl
  rotate_left
  · simp only [Act.put, List.setIfInBounds_toArray, List.set_cons_zero, List.set_cons_succ, i64_w, i32_w]
    rfl
  refine pure_ (i := 2) (N := some 5) (v := ?_) (a' := ?_) #[true, false, true, false, false, false, false, false, false, false] rfl rfl (by kernel_rfl) (fun _ _ _ h => h) (Or.inl ⟨by rfl, ?_⟩) ?_ ?_
  rotate_left
  · intro w'
    go_simp
    with_reducible rfl
  rotate_left
  · simp only [Act.put, List.setIfInBounds_toArray, List.set_cons_zero, List.set_cons_succ, i64_w, i32_w]
    rfl
  refine pure_ (i := 5) (N := some 8) (v := ?_) (a' := ?_) #[true, false, true, false, false, true, false, false, false, false] rfl rfl (by kernel_rfl) (fun _ _ _ h => h) (Or.inl ⟨by rfl, ?_⟩) ?_ ?_
  rotate_left
  · intro w'
    go_simp
    with_reducible rfl
  rotate_left
  · simp only [Act.put, List.setIfInBounds_toArray, List.set_cons_zero, List.set_cons_succ, i64_w, i32_w]
    rfl
  refine take_ (i := 1) (N := some 4) (v := ?_) (a' := ?_) #[true, true, true, false, false, true, false, false, false, false] rfl rfl (by kernel_rfl) (fun _ _ _ h => h) (Or.inl ⟨by rfl, ?_⟩) hHeld ?_ ?_
  rotate_left
  · rintro w' ⟨s0, s1, s2⟩
    go_simp
    with_reducible rfl
  rotate_left
  · simp only [Act.put, List.setIfInBounds_toArray, List.set_cons_zero, List.set_cons_succ, i64_w, i32_w]
    rfl
  refine take_ (i := 3) (N := some 6) (v := ?_) (a' := ?_) #[true, true, true, true, false, true, false, false, false, false] rfl rfl (by kernel_rfl) (fun _ _ _ h => h) (Or.inl ⟨by rfl, ?_⟩) hHeld ?_ ?_
  rotate_left
  · rintro w' ⟨s0, s1, s2⟩
    go_simp
    with_reducible rfl
  rotate_left
  · simp only [Act.put, List.setIfInBounds_toArray, List.set_cons_zero, List.set_cons_succ, i64_w, i32_w]
    rfl
  refine take_ (i := 6) (N := some 9) (v := ?_) (a' := ?_) #[true, true, true, true, false, true, true, false, false, false] rfl rfl (by kernel_rfl) (fun _ _ _ h => h) (Or.inl ⟨by rfl, ?_⟩) hHeld ?_ ?_
  rotate_left
  · rintro w' ⟨s0, s1, s2⟩
    go_simp
    with_reducible rfl
  rotate_left
  · simp only [Act.put, List.setIfInBounds_toArray, List.set_cons_zero, List.set_cons_succ, i64_w, i32_w]
    rfl
  refine one_ (i := 4) (N := some 7) #[true, true, true, true, true, true, true, false, false, false] rfl rfl (by kernel_rfl) (by decide) (fun K hK => ?_)
  refine goes_ Try.func55 (by kernel_rfl) rfl #[.slice A1 s.st.length c1] (by rfl) rfl rfl (by simp only [List.map_toArray, List.map_cons, List.map_nil]; rfl) ?_
  with_reducible refine (clone_calls A1 c1 s.st W1.drew (Kd.C_drew H1.out) HL.out.1).mono ?_
  rintro e w3 ⟨B1, d1, rfl, ho1, hb3⟩
  refine ⟨_, rfl, ?_⟩
  have HO1 := Aside0.mk ho1
  have HB3 := Aside0.mk (below_step (below_drew (Below.refl _ _)) hb3)
  clear ho1 hb3
  refine hK.out _ _ ⟨(HB3.out.cell (p := ⟨W.heap.size, 0, none⟩) (blk_lt HX.out.1)).trans r0, (HB3.out.cell (p := ⟨W.heap.size, 1, none⟩) (blk_lt HX.out.1)).trans r1, (HB3.out.cell (p := ⟨W.heap.size, 2, none⟩) (blk_lt HX.out.1)).trans r2⟩ (fun hHeld => ?_)
  clear hK K
  refine norm_ (a' := ?_) ?_ ?_
  rotate_left
  · show Act.put _ (some 7) _ = _
    simp only [Act.put, List.setIfInBounds_toArray, List.set_cons_zero, List.set_cons_succ, i64_w, i32_w]
    rfl
  refine one_ (i := 7) (N := some 10) #[true, true, true, true, true, true, true, true, false, false] rfl rfl (by kernel_rfl) (by decide) (fun K hK => ?_)
  refine goes_ Try.func55 (by kernel_rfl) rfl #[.slice A2 s.ca.length c2] (by rfl) rfl rfl (by simp only [List.map_toArray, List.map_cons, List.map_nil]; rfl) ?_
  with_reducible refine (clone_calls A2 c2 s.ca w3 (Kd.C_below H2.out HB3.out) HL.out.2).mono ?_
  rintro e w4 ⟨B2, d2, rfl, ho2, hb4⟩
  refine ⟨_, rfl, ?_⟩
  have HO2 := Aside0.mk ho2
  have HB34 := Aside0.mk hb4
  have HB4 := Aside0.mk (below_step HB3.out hb4)
  have y1 : w4.heap[W.heap.size + 1]? = some (.cells #[.int .i64 0, .slice none 0 0, .slice none 0 0] 42 (0, 0)) := (HB4.out.block _ (blk_lt HX.out.2)).trans HX.out.2
  have z0 := blk_cell y1 0
  have z1 := blk_cell y1 1
  have z2 := blk_cell y1 2
  have f0 := blk_frozen y1 0
  have f1 := blk_frozen y1 1
  have f2 := blk_frozen y1 2
  have HY := Aside0.mk y1
  clear ho2 hb4 y1
  refine hK.out _ _ ⟨(HB4.out.cell (p := ⟨W.heap.size, 0, none⟩) (blk_lt HX.out.1)).trans r0, (HB4.out.cell (p := ⟨W.heap.size, 1, none⟩) (blk_lt HX.out.1)).trans r1, (HB4.out.cell (p := ⟨W.heap.size, 2, none⟩) (blk_lt HX.out.1)).trans r2⟩ (fun hHeld => ?_)
  clear hK K
  refine norm_ (a' := ?_) ?_ ?_
  rotate_left
  · show Act.put _ (some 10) _ = _
    simp only [Act.put, List.setIfInBounds_toArray, List.set_cons_zero, List.set_cons_succ, i64_w, i32_w]
    rfl
  refine pure_ (i := 8) (N := some 11) (v := ?_) (a' := ?_) #[true, true, true, true, true, true, true, true, true, false] rfl rfl (by kernel_rfl) (fun _ _ _ h => h) (Or.inl ⟨by rfl, ?_⟩) ?_ ?_
  rotate_left
  · intro w'
    go_simp
    with_reducible rfl
  rotate_left
  · simp only [Act.put, List.setIfInBounds_toArray, List.set_cons_zero, List.set_cons_succ, i64_w, i32_w]
    rfl
  refine last_ (i := 9) (N := none) #[true, true, true, true, true, true, true, true, true, true] rfl rfl (by kernel_rfl) (by decide) (fun K hK => ?_)
  refine skip_ (w1 := ?_) (by rfl) rfl ?_ ?_
  rotate_left
  · go_simp
    rfl
  refine hK.out _ _ ?_
  clear hK K
  refine done_ (by kernel_rfl) ?_

  go_wp2
  have hz := blk_set (blk_set (blk_set HY.out 0 (.int .i64 s.pc)) 1 (.slice B1 s.st.length d1)) 2 (.slice B2 s.ca.length d2)
  have e0 := (blk_cell hz 0).trans (show _ = some (Value.int .i64 s.pc) from rfl)
  have e1 := (blk_cell hz 1).trans (show _ = some (Value.slice B1 s.st.length d1) from rfl)
  have e2 := (blk_cell hz 2).trans (show _ = some (Value.slice B2 s.ca.length d2) from rfl)
  have ho1 := pw_own_below HO1.out HB34.out
  have ho2 := HO2.out
  have hs1 : W.heap.size ≤ W1.drew.heap.size := HB.out.size
  have hs2 : W.heap.size ≤ w3.heap.size := Nat.le_trans HB.out.size HB3.out.size
  have hb4 : Below W.heap.size W w4 := below_step HB.out HB4.out
  have n1 := own_ne ho1 HY.out (by decide)
  have n2 := own_ne ho2 HY.out (by decide)
  exact bodyPost_ret (v := .agg #[.int .i64 s.pc, .slice B1 s.st.length d1, .slice B2 s.ca.length d2]) (by simp [results, Try.results53, go_sem, e0, e1, e2]) rfl
    ⟨B1, d1, B2, d2, rfl, own_less (own_setCell (own_setCell (own_setCell ho1 n1 _) n1 _) n1 _) hs1, own_less (own_setCell (own_setCell (own_setCell ho2 n2 _) n2 _) n2 _) hs2, ne_symm (ne_below ho2 HO1.out), ((hb4.setCell (p := ⟨W.heap.size + 1, 0, none⟩) (by show W.heap.size ≤ W.heap.size + 1; omega) _).setCell (p := ⟨W.heap.size + 1, 1, none⟩) (by show W.heap.size ≤ W.heap.size + 1; omega) _).setCell (p := ⟨W.heap.size + 1, 2, none⟩) (by show W.heap.size ≤ W.heap.size + 1; omega) _⟩
end Go.Proofs.Ytkjdhhdkfbkgpaa.VmW
namespace Go.Proofs.Ytkjdhhdkfbkgpaa.VmW
open Go.RowKit Go.Proofs.YtkjdhhdkfbkgpaaW.PrintWords Go.Proofs.YtkjdhhdkfbkgpaaW.PrintMore Go.Proofs.YtkjdhhdkfbkgpaaW.PrintLast Go.Proofs.Ytkjdhhdkfbkgpaa.Pvm
set_option linter.unusedVariables false
set_option linter.unusedSimpArgs false
theorem cutP_zero (s : List Int) : cutP s 0 = s := by unfold cutP; simp
theorem opP_both {M : Type} {K : MemK M} {op a : Int} {s : St} {m : M} (h : op ≠ 1 ∧ op ≠ 3 ∧ op ≠ 2 ∧ op ≠ 4 ∧ op ≠ 17 ∧ op ≠ 18 ∧ op ≠ 19 ∧ op ≠ 20 ∧ op ≠ 21 ∧ op ≠ 22 ∧ op ≠ 23 ∧ op ≠ 24 ∧ op ≠ 25) :
    opP K op a s m = if (bothP op (lastP s.st 1) (lastP s.st 0)).2 = true then (⟨s.pc + 1, cutP s.st 2 ++ [(bothP op (lastP s.st 1) (lastP s.st 0)).1], s.ca⟩, m, 0, 0) else (s, m, 4, 0) := by
  obtain ⟨a1, a2, a3, a4, a5, a6, a7, a8, a9, a10, a11, a12, a13⟩ := h
  unfold opP
  rw [if_neg a1, if_neg a2, if_neg a3, if_neg a4, if_neg a5, if_neg a6, if_neg a7, if_neg a8, if_neg a9, if_neg a10, if_neg a11, if_neg a12, if_neg a13]
/-- A call through an interface value whose dynamic type is known, in a region that draws its order. -/
theorem goesI_ {P : Program} {ops : Array Oper} {Q : Exit → Act → World → Prop} {oi : Oper} {N : Option Tmp} {a : Act} {w : World} {K : Act → World → Prop} {f : FuncId} {fn : Func} {r : Operand} {name : String} {as_ : Array Operand} {ts : Array TypeId} {T : TypeId} {recv : Value}
    (hf : P.funcs[f]? = some fn) (hname : (fn.name == "runtime.NumGoroutine") = false) (hb : fn.body.isSome = true) (hm : ∀ w, (Go.method (P.types.size + Made.depth) T recv name).run P w = .ok (f, recv) w) (args : Array Value)
    (hw : Region.wanted oi (yielded ops a.tmps) = true) (hN : oi.dst = N) (hop : oi.op = .call { callee := .invoke r name, args := as_, argTypes := ts }) (hr : a.eval r = .iface T recv) (hargs : as_.map a.eval = args) (full : Array Value) (hfull : #[recv] ++ args = full)
    (h : Calls P f full w fun e w' => ∃ v, e = .returned v ∧ K (a.put N v) w') : if Region.wanted oi (yielded ops a.tmps) = true then Oper.wp P oi a w K Q else K (a.put N undef) w := by
  subst hfull
  refine call_ f (#[recv] ++ args) hw hN ?_ h
  have he := enters_ hf hname hb (#[recv] ++ args) w
  unfold execOp
  simp only [hop, resolve, hr, hargs]
  have h0 : (#[Value.iface T recv] ++ args)[0]? = some (Value.iface T recv) := by rw [Array.getElem?_append_left (by simp)]; rfl
  simp [invoke, callMethod, go_sem, hm, h0]
  try simp only [Made.depth] at hm
  try simp [hm, go_sem]
  try rw [hm w]
  try simp only [go_sem]
  first | simpa using he | simpa [hm, go_sem] using he
/-- A row's block is as it was, or new. -/
def At_ (n : Nat) (v v' : Value) : Prop := v'.ownBlock = v.ownBlock ∨ ∃ b, v'.ownBlock = some b ∧ n ≤ b
def StepPost (W : World) (base g : Nat) (Ac : Option Addr) (cc : Nat) (code : List In) (p : Value) (f : Nat → Prop) (v1 v2 : Value) (r : St × Mem × Int × Int) (e : Ending) (W' : World) : Prop :=
  ∃ v1' v2' f', e = .returned (.agg #[.int .i64 r.2.2.1, .int .i64 r.2.2.2, .int .i64 0]) ∧ Mach W' base g Ac cc code p f' v1' v2' r.1 r.2.1 ∧ Mv W W' (mS g v1 v2 f) ∧ At_ W.heap.size v1 v1' ∧ At_ W.heap.size v2 v2' ∧ ∀ k, f' k → f k ∨ W.heap.size ≤ k
/-- The step's own boxes: how it stops, a fault, the instruction. -/
structure SE (W : World) (base g : Nat) (Ac : Option Addr) (cc : Nat) (code : List In) (p : Value) (f0 : Nat → Prop) (u1 u2 : Value) (op a : Int) (f : Nat → Prop) (v1 v2 : Value) (s : St) (m : Mem) (W' : World) : Prop where
  m : Mach W' base g Ac cc code p f v1 v2 s m
  mv : Mv W W' (mS g u1 u2 f0)
  a1 : At_ W.heap.size u1 v1
  a2 : At_ W.heap.size u2 v2
  af : ∀ k, f k → f0 k ∨ W.heap.size ≤ k
  bw : base ≤ W.heap.size
  res : W'.heap[W.heap.size]? = some (.cells #[.int .i64 0, .int .i64 0, .int .i64 0] 53 (0, 0))
  flt : W'.heap[W.heap.size + 1]? = some (.cells #[.int .i64 4, .int .i64 0, .int .i64 0] 53 (0, 0))
  ins : W'.heap[W.heap.size + 2]? = some (.cells #[.int .i64 op, .int .i64 a] 27 (0, 0))
section
variable {W W' W2 : World} {base g : Nat} {Ac : Option Addr} {cc : Nat} {code : List In} {p : Value} {f0 f : Nat → Prop} {u1 u2 v1 v2 : Value} {op a : Int} {s : St} {m : Mem}
theorem SE.step (h : SE W base g Ac cc code p f0 u1 u2 op a f v1 v2 s m W') (hb : Below W'.heap.size W' W2) : SE W base g Ac cc code p f0 u1 u2 op a f v1 v2 s m W2 :=
  ⟨h.m.step hb, h.mv.trans (Mv.of_below hb (fun _ => False)) (fun _ e => e.elim), h.a1, h.a2, h.af, h.bw, (hb.block _ (blk_lt h.res)).trans h.res, (hb.block _ (blk_lt h.flt)).trans h.flt, (hb.block _ (blk_lt h.ins)).trans h.ins⟩
/-- What the machine's blocks are, none of the step's boxes. -/
theorem SE.not (h : SE W base g Ac cc code p f0 u1 u2 op a f v1 v2 s m W') (k : Nat) (o : Array Value) (t : TypeId) (hk : W'.heap[k]? = some (.cells o t (0, 0))) (ht : t = 53 ∨ t = 27) (hf : ¬ f k) : ¬ mS g v1 v2 f k := by
  rintro (e | e | e | e)
  · subst e
    have := h.m.box
    rw [hk] at this
    injection this with this
    injection this with _ this
    rcases ht with rfl | rfl <;> exact absurd this (by decide)
  · obtain ⟨cs, hh⟩ := own_typed h.m.stk k e
    rw [hk] at hh
    injection hh with hh
    injection hh with _ hh
    rcases ht with rfl | rfl <;> exact absurd hh (by decide)
  · obtain ⟨cs, hh⟩ := own_typed h.m.cal k e
    rw [hk] at hh
    injection hh with hh
    injection hh with _ hh
    rcases ht with rfl | rfl <;> exact absurd hh (by decide)
  · exact hf e
/-- The memory's blocks are none of the step's boxes. -/
theorem SE.old (h : SE W base g Ac cc code p f0 u1 u2 op a f v1 v2 s m W') (hf : ∀ k, f k → k < W.heap.size ∨ W.heap.size + 3 ≤ k) : ¬ f W.heap.size ∧ ¬ f (W.heap.size + 1) ∧ ¬ f (W.heap.size + 2) :=
  ⟨fun e => by have := hf _ e; omega, fun e => by have := hf _ e; omega, fun e => by have := hf _ e; omega⟩
/-- The machine has been turned. -/
theorem SE.turn (h : SE W base g Ac cc code p f0 u1 u2 op a f v1 v2 s m W') {f' : Nat → Prop} {v1' v2' : Value} {s' : St} {m' : Mem} (hf : ¬ f W.heap.size ∧ ¬ f (W.heap.size + 1) ∧ ¬ f (W.heap.size + 2)) (hm : Mach W2 base g Ac cc code p f' v1' v2' s' m') (hv : Mv W' W2 (mS g v1 v2 f)) (h1 : At_ W'.heap.size v1 v1') (h2 : At_ W'.heap.size v2 v2') (hf' : ∀ k, f' k → f k ∨ W'.heap.size ≤ k) :
    SE W base g Ac cc code p f0 u1 u2 op a f' v1' v2' s' m' W2 := by
  have hz := h.mv.size
  have hat : ∀ {u v v' : Value}, At_ W.heap.size u v → At_ W'.heap.size v v' → At_ W.heap.size u v' := fun {u v v'} x y => by
    rcases y with y | ⟨b, y, hy⟩
    · rcases x with x | ⟨b, x, hx⟩
      · exact .inl (y.trans x)
      · exact .inr ⟨b, y.trans x, hx⟩
    · exact .inr ⟨b, y, Nat.le_trans hz hy⟩
  refine ⟨hm, h.mv.trans hv fun k e => ?_, hat h.a1 h1, hat h.a2 h2, fun k e => (hf' k e).elim (h.af k) (fun hle => .inr (Nat.le_trans hz hle)), h.bw, hv.blk h.res (h.not _ _ _ h.res (.inl rfl) hf.1), hv.blk h.flt (h.not _ _ _ h.flt (.inl rfl) hf.2.1), hv.blk h.ins (h.not _ _ _ h.ins (.inr rfl) hf.2.2)⟩
  have hr : ∀ {u v : Value}, At_ W.heap.size u v → v.ownBlock = some k → u.ownBlock = some k ∨ W.heap.size ≤ k := fun {u v} x y => by
    rcases x with x | ⟨b, x, hx⟩
    · exact .inl (x ▸ y)
    · rw [x] at y; have := Option.some.inj y; exact .inr (by omega)
  rcases e with e | e | e | e
  · exact .inl (.inl e)
  · exact (hr h.a1 e).elim (fun e => .inl (.inr (.inl e))) .inr
  · exact (hr h.a2 e).elim (fun e => .inl (.inr (.inr (.inl e)))) .inr
  · exact (h.af k e).elim (fun e => .inl (.inr (.inr (.inr e)))) .inr
theorem SE.init {W1 w3 : World} (h : Mach W base g Ac cc code p f v1 v2 s m) (hbase : base ≤ W.heap.size) (hb1 : Below W.heap.size W W1) (hz : W1.heap.size = W.heap.size + 2)
    (y0 : W1.heap[W.heap.size]? = some (.cells #[.int .i64 0, .int .i64 0, .int .i64 0] 53 (0, 0))) (y1 : W1.heap[W.heap.size + 1]? = some (.cells #[.int .i64 4, .int .i64 0, .int .i64 0] 53 (0, 0)))
    (hb : Below W1.heap.size W1 w3) (hn : w3.heap[W.heap.size + 2]? = some (.cells #[.int .i64 0, .int .i64 0] 27 (0, 0))) (op a : Int) :
    SE W base g Ac cc code p f v1 v2 op a f v1 v2 s m ((w3.setCell ⟨W.heap.size + 2, 0, none⟩ (.int .i64 op)).setCell ⟨W.heap.size + 2, 1, none⟩ (.int .i64 a)) := by
  have hb2 : Below W1.heap.size W1 ((w3.setCell ⟨W.heap.size + 2, 0, none⟩ (.int .i64 op)).setCell ⟨W.heap.size + 2, 1, none⟩ (.int .i64 a)) :=
    (hb.setCell (p := ⟨W.heap.size + 2, 0, none⟩) (by show W1.heap.size ≤ W.heap.size + 2; omega) _).setCell (p := ⟨W.heap.size + 2, 1, none⟩) (by show W1.heap.size ≤ W.heap.size + 2; omega) _
  exact ⟨(h.step hb1).step hb2, (Mv.of_below hb1 _).trans (Mv.of_below hb2 (fun _ => False)) (fun _ e => e.elim), .inl rfl, .inl rfl, fun k e => .inl e, hbase, (hb2.block _ (blk_lt y0)).trans y0, (hb2.block _ (blk_lt y1)).trans y1, blk_set (blk_set hn 0 _) 1 _⟩
theorem SE.cells (h : SE W base g Ac cc code p f0 u1 u2 op a f v1 v2 s m W') :
    W'.cell? ⟨g, 0, none⟩ = some (.slice Ac code.length cc) ∧ W'.cell? ⟨g, 1, none⟩ = some (.int .i64 s.pc) ∧ W'.cell? ⟨g, 2, none⟩ = some v1 ∧ W'.cell? ⟨g, 3, none⟩ = some v2 ∧ W'.cell? ⟨g, 4, none⟩ = some (memI p) ∧ W'.frozen? ⟨g, 1, none⟩ = false ∧ W'.frozen? ⟨g, 3, none⟩ = false :=
  ⟨blk_cell h.m.box 0, blk_cell h.m.box 1, blk_cell h.m.box 2, blk_cell h.m.box 3, blk_cell h.m.box 4, blk_frozen h.m.box 1, blk_frozen h.m.box 3⟩
theorem SE.boxes (h : SE W base g Ac cc code p f0 u1 u2 op a f v1 v2 s m W') :
    W'.cell? ⟨W.heap.size, 0, none⟩ = some (.int .i64 0) ∧ W'.cell? ⟨W.heap.size, 1, none⟩ = some (.int .i64 0) ∧ W'.cell? ⟨W.heap.size, 2, none⟩ = some (.int .i64 0) ∧ W'.frozen? ⟨W.heap.size, 0, none⟩ = false ∧ W'.frozen? ⟨W.heap.size, 1, none⟩ = false ∧ W'.frozen? ⟨W.heap.size, 2, none⟩ = false ∧
    W'.cell? ⟨W.heap.size + 1, 0, none⟩ = some (.int .i64 4) ∧ W'.cell? ⟨W.heap.size + 1, 1, none⟩ = some (.int .i64 0) ∧ W'.cell? ⟨W.heap.size + 1, 2, none⟩ = some (.int .i64 0) ∧ W'.cell? ⟨W.heap.size + 2, 0, none⟩ = some (.int .i64 op) ∧ W'.cell? ⟨W.heap.size + 2, 1, none⟩ = some (.int .i64 a) :=
  ⟨blk_cell h.res 0, blk_cell h.res 1, blk_cell h.res 2, blk_frozen h.res 0, blk_frozen h.res 1, blk_frozen h.res 2, blk_cell h.flt 0, blk_cell h.flt 1, blk_cell h.flt 2, blk_cell h.ins 0, blk_cell h.ins 1⟩
/-- What is told at the end: the box of how it stops has been written. -/
theorem SE.told (h : SE W base g Ac cc code p f0 u1 u2 op a f v1 v2 s m W') (x y z : Int) (hf : ∀ k, f k → k < W.heap.size ∨ W.heap.size + 3 ≤ k) {r : St × Mem × Int × Int} (hr : r = (s, m, x, y)) {e : Ending} (he : e = .returned (.agg #[.int .i64 x, .int .i64 y, .int .i64 0])) :
    StepPost W base g Ac cc code p f0 u1 u2 r e (((W'.setCell ⟨W.heap.size, 0, none⟩ (.int .i64 x)).setCell ⟨W.heap.size, 1, none⟩ (.int .i64 y)).setCell ⟨W.heap.size, 2, none⟩ (.int .i64 z)) := by
  subst hr
  have hn := h.not _ _ _ h.res (.inl rfl) (h.old hf).1
  have hm : Mv W' (((W'.setCell ⟨W.heap.size, 0, none⟩ (.int .i64 x)).setCell ⟨W.heap.size, 1, none⟩ (.int .i64 y)).setCell ⟨W.heap.size, 2, none⟩ (.int .i64 z)) (fun k => k = W.heap.size) :=
    (((Mv.refl W' (fun k => k = W.heap.size)).set (p := ⟨W.heap.size, 0, none⟩) (.inl rfl) _).set (p := ⟨W.heap.size, 1, none⟩) (.inl rfl) _).set (p := ⟨W.heap.size, 2, none⟩) (.inl rfl) _
  refine ⟨v1, v2, f, he, ⟨hm.blk h.m.box (fun e => hn (.inl e.symm)), hm.C kIn_any h.m.cde (fun ad e hp e2 => ?_), h.m.far, h.m.gb, hm.own h.m.stk (fun k e e2 => hn (.inr (.inl (e2 ▸ e)))), hm.own h.m.cal (fun k e e2 => hn (.inr (.inr (.inl (e2 ▸ e))))), h.m.ne, h.m.mem.mv hm (fun k e e2 => hn (.inr (.inr (.inr (e2 ▸ e))))), h.m.memf⟩, h.mv.trans hm (fun k e => .inr (by omega)), h.a1, h.a2, h.af⟩
  have h1 := (h.m.far ad e hp).1
  have h2 := h.bw
  omega
theorem SE.pc (h : SE W base g Ac cc code p f0 u1 u2 op a f v1 v2 s m W') (hf : ∀ k, f k → k < W.heap.size ∨ W.heap.size + 3 ≤ k) (x : Int) : SE W base g Ac cc code p f0 u1 u2 op a f v1 v2 ⟨x, s.st, s.ca⟩ m (W'.setCell ⟨g, 1, none⟩ (.int .i64 x)) :=
  h.turn (h.old hf) (h.m.pc x) ((Mv.refl W' (mS g v1 v2 f)).set (p := ⟨g, 1, none⟩) (.inl (.inl rfl)) _) (.inl rfl) (.inl rfl) (fun k e => .inl e)
theorem SE.left (h : SE W base g Ac cc code p f0 u1 u2 op a f v1 v2 s m W') (hf : ∀ k, f k → k < W.heap.size ∨ W.heap.size + 3 ≤ k) (t : Nat) (ti : Int) (hti : ti = t) (ht : t ≤ s.st.length) (hl : s.st.length ≤ 64) (A : Option Addr) (k c : Nat) (l : List Int) (hC : Kd.C (Kd.int .i64) W' A k l) (hk : k ≤ 8) :
    Calls Try.prog 63 #[.pointer (some ⟨g, 0, none⟩), .int .i64 ti, .slice A k c] W' fun e w' => ∃ B d, e = .returned (.tuple #[]) ∧ SE W base g Ac cc code p f0 u1 u2 op a f (.slice B (cutP s.st t ++ l).length d) v2 ⟨s.pc, cutP s.st t ++ l, s.ca⟩ m w' := by
  subst hti
  refine (leave_calls W' base g Ac cc code p f v1 v2 s m h.m (Nat.le_trans h.bw h.mv.size) t ht hl A k c l hC hk).mono ?_
  rintro e w' ⟨v, he, hm, hv, hat⟩
  obtain ⟨B, d, e1⟩ : ∃ B d, v = .slice B (cutP s.st t ++ l).length d := own_slice hm.stk
  subst e1
  exact ⟨B, d, he, h.turn (h.old hf) hm hv hat (.inl rfl) (fun k e => .inl e)⟩
theorem SE.lastc (h : SE W base g Ac cc code p f0 u1 u2 op a f v1 v2 s m W') (hl : s.st.length ≤ 64) (k : Nat) (ki : Int) (hki : ki = k) (hk : k < s.st.length) :
    Calls Try.prog 64 #[.pointer (some ⟨g, 0, none⟩), .int .i64 ki] W' fun e w' => e = .returned (.int .i64 (lastP s.st k)) ∧ SE W base g Ac cc code p f0 u1 u2 op a f v1 v2 s m w' := by
  subst hki
  obtain ⟨B, d, rfl⟩ := own_slice h.m.stk
  obtain ⟨b, rfl⟩ := row_some h.m.stk (by omega)
  refine (last_calls W' base g b s.st d k .nilIface h.m.stk h.cells.2.2.1 hk hl).mono ?_
  rintro e w' ⟨he, n, rfl⟩
  exact ⟨he, h.step (pw_below_drewN (Below.refl _ _) n)⟩
theorem SE.bitc (h : SE W base g Ac cc code p f0 u1 u2 op a f v1 v2 s m W') (b : Bool) : Calls Try.prog 65 #[.bool b] W' fun e w' => e = .returned (.int .i64 (bitP b)) ∧ SE W base g Ac cc code p f0 u1 u2 op a f v1 v2 s m w' :=
  (vm_bit.calls b (bitP b) W' (by unfold vm_bit.f bitP; cases b <;> rfl)).mono fun e w' ⟨he, hd⟩ => ⟨he, h.step hd.below⟩
theorem SE.bothc (h : SE W base g Ac cc code p f0 u1 u2 op a f v1 v2 s m W') (o x y : Int) : Calls Try.prog 66 #[.int .i64 o, .int .i64 x, .int .i64 y] W' fun e w' => e = .returned (.tuple #[.int .i64 (bothP o x y).1, .bool (bothP o x y).2]) ∧ SE W base g Ac cc code p f0 u1 u2 op a f v1 v2 s m w' :=
  (vm_both.calls o x y (bothP o x y).1 (bothP o x y).2 W' (both_f o x y)).mono fun e w' ⟨he, hd⟩ => ⟨he, h.step hd.below⟩
theorem SE.bothcc (h : SE W base g Ac cc code p f0 u1 u2 op a f v1 v2 s m W') {o x y n : Int} {ok : Bool} (hr : bothP o x y = (n, ok)) : Calls Try.prog 66 #[.int .i64 o, .int .i64 x, .int .i64 y] W' fun e w' => e = .returned (.tuple #[.int .i64 n, .bool ok]) ∧ SE W base g Ac cc code p f0 u1 u2 op a f v1 v2 s m w' := by
  have := h.bothc o x y
  rwa [hr] at this
theorem SE.far3 (h : SE W base g Ac cc code p f0 u1 u2 op a f v1 v2 s m W') {f' : Nat → Prop} (hf : ∀ k, f k → k < W.heap.size ∨ W.heap.size + 3 ≤ k) (hf' : ∀ k, f' k → f k ∨ W'.heap.size ≤ k) : ∀ k, f' k → k < W.heap.size ∨ W.heap.size + 3 ≤ k := fun k e => by
  rcases hf' k e with e | e
  · exact hf k e
  · have := blk_lt h.ins; omega
theorem SE.loadc (h : SE W base g Ac cc code p f0 u1 u2 op a f v1 v2 s m W') (hf : ∀ k, f k → k < W.heap.size ∨ W.heap.size + 3 ≤ k) {x y : Int} {m' : Mem} {ok : Bool} (hr : memK.load m x = (m', y, ok)) : Calls Try.prog 30 #[p, .int .i64 x] W' fun e w' => ∃ f', e = .returned (.tuple #[.int .u8 y, .bool ok]) ∧ SE W base g Ac cc code p f0 u1 u2 op a f' v1 v2 s m' w' ∧ (∀ k, f' k → k < W.heap.size ∨ W.heap.size + 3 ≤ k) := by
  refine (load_calls W' p f m h.m.mem x).mono ?_
  rintro e w' ⟨f', he, hp, hv, hf'⟩
  rw [hr] at he hp
  exact ⟨f', he, h.turn (h.old hf) (h.m.memory (Nat.le_trans h.bw h.mv.size) hv hp hf') (hv.mono (fun k e => .inl (.inr (.inr (.inr e))))) (.inl rfl) (.inl rfl) hf', h.far3 hf hf'⟩
theorem SE.storec (h : SE W base g Ac cc code p f0 u1 u2 op a f v1 v2 s m W') (hf : ∀ k, f k → k < W.heap.size ∨ W.heap.size + 3 ≤ k) {x y : Int} {m' : Mem} {ok : Bool} (hr : memK.store m x (y % 256) = (m', ok)) : Calls Try.prog 31 #[p, .int .i64 x, .int .u8 (y % 256)] W' fun e w' => ∃ f', e = .returned (.bool ok) ∧ SE W base g Ac cc code p f0 u1 u2 op a f' v1 v2 s m' w' ∧ (∀ k, f' k → k < W.heap.size ∨ W.heap.size + 3 ≤ k) := by
  refine (store_calls W' p f m h.m.mem x (y % 256) (by omega)).mono ?_
  rintro e w' ⟨f', he, hp, hv, hf'⟩
  rw [hr] at he hp
  exact ⟨f', he, h.turn (h.old hf) (h.m.memory (Nat.le_trans h.bw h.mv.size) hv hp hf') (hv.mono (fun k e => .inl (.inr (.inr (.inr e))))) (.inl rfl) (.inl rfl) hf', h.far3 hf hf'⟩
/-- The calls have another row. -/
theorem SE.called {w1 : World} {v2' : Value} {l : List Int} (h : SE W base g Ac cc code p f0 u1 u2 op a f v1 v2 s m W') (hf : ∀ k, f k → k < W.heap.size ∨ W.heap.size + 3 ≤ k) (ho : w1.ownsRow base 3 1 v2' l.length (nums .i64 l)) (hg : W'.grownBy w1 v2.ownBlock) (hat : v2'.ownBlock = v2.ownBlock ∨ ∃ b, v2'.ownBlock = some b ∧ W'.heap.size ≤ b) :
    SE W base g Ac cc code p f0 u1 u2 op a f v1 v2' ⟨s.pc, s.st, l⟩ m (w1.setCell ⟨g, 3, none⟩ v2') :=
  h.turn (h.old hf) (h.m.call ho hg hat).1 (h.m.call ho hg hat).2 (.inl rfl) hat (fun k e => .inl e)
end
theorem lit_C (W : World) (l : List Int) (hl : l.length ≤ 64) (cs : Array Value) (hc : cs = (nums .i64 l).toArray) : Kd.C (Kd.int .i64) (W.alloc (.cells cs 3)) (some ⟨W.heap.size, 0, none⟩) l.length l := by
  subst hc
  have ho := own_lit W 0 3 .i64 l (Nat.zero_le _) (by omega)
  obtain ⟨A, c, e, _, hC⟩ := Kd.R_reads (Kd.R_of_own (h1 := fun _ => rfl) (ok := fun _ => True) (enc := Value.int .i64) ho (fun _ _ => trivial))
  injection e with e1 _ _
  subst e1
  exact hC
theorem lit_R (W : World) (x : Int) : ReadsInt (W.alloc (.cells #[.int .i64 x] 3)) .i64 (some ⟨W.heap.size, 0, none⟩) 1 [x] := by
  have ho := own_lit W 0 3 .i64 [x] (Nat.zero_le _) (by simp)
  exact own_reads' ho
section
variable {W W' : World} {base g : Nat} {Ac : Option Addr} {cc : Nat} {code : List In} {p : Value} {f0 f : Nat → Prop} {u1 u2 v1 : Value} {op a : Int} {s : St} {m : Mem} {E : Option Addr} {c : Nat}
variable {ops : Array Oper} {rest : List Oper} {oo : Oper} {act : Act} {Q : Exit → Act → World → Prop}
theorem SE.appc (h : SE W base g Ac cc code p f0 u1 u2 op a f v1 (.slice E s.ca.length c) s m W') (hf : ∀ k, f k → k < W.heap.size ∨ W.heap.size + 3 ≤ k) (hl : s.ca.length ≤ 32) (x : Int) (hgd : oo.guard = none) (sv xv : Operand)
    (ho : oo.op = .call { callee := .builtin .append, args := #[sv, xv], argTypes := #[33, 33] }) (hs : act.eval sv = .slice E s.ca.length c) (hx : act.eval xv = .slice (some ⟨W'.heap.size, 0, none⟩) 1 1)
    (k : ∀ E6 c6 w6, SE W base g Ac cc code p f0 u1 u2 op a f v1 (.slice E6 (s.ca.length + 1) c6) ⟨s.pc, s.st, s.ca ++ [x]⟩ m (w6.setCell ⟨g, 3, none⟩ (.slice E6 (s.ca.length + 1) c6)) → w6.cell? ⟨g, 3, none⟩ = some (.slice E s.ca.length c) → w6.frozen? ⟨g, 3, none⟩ = false → (w6.cell? ⟨W.heap.size, 0, none⟩ = some (.int .i64 0) ∧ w6.cell? ⟨W.heap.size, 1, none⟩ = some (.int .i64 0) ∧ w6.cell? ⟨W.heap.size, 2, none⟩ = some (.int .i64 0) ∧ w6.frozen? ⟨W.heap.size, 0, none⟩ = false ∧ w6.frozen? ⟨W.heap.size, 1, none⟩ = false ∧ w6.frozen? ⟨W.heap.size, 2, none⟩ = false ∧ w6.cell? ⟨W.heap.size + 2, 0, none⟩ = some (.int .i64 op) ∧ w6.cell? ⟨W.heap.size + 2, 1, none⟩ = some (.int .i64 a) ∧ w6.frozen? ⟨g, 1, none⟩ = false ∧ w6.cell? ⟨g, 1, none⟩ = some (.int .i64 s.pc)) →
      wpList Try.prog ops Q rest (act.put oo.dst (.slice E6 (s.ca.length + 1) c6)) w6) : wpList Try.prog ops Q (oo :: rest) act (W'.alloc (.cells #[.int .i64 x] 3)) := by
  have h5 := h.step (below_alloc (Below.refl W'.heap.size W') (.cells #[.int .i64 x] 3))
  have hb : base ≤ (W'.alloc (.cells #[.int .i64 x] 3)).heap.size := Nat.le_trans h5.bw h5.mv.size
  refine print_append_row (w0 := W'.alloc (.cells #[.int .i64 x] 3)) base hgd sv xv 33 3 .i64 8 ho Try.underlying33 infoI (by decide) (.slice E s.ca.length c) s.ca [x] (some ⟨W'.heap.size, 0, none⟩) 1 1 hs hx h5.m.cal (lit_R W' x) (Below.mono (Below.refl _ _) hb) hb (by omega) ?_
  intro v6 w6 ho _ hg hat
  have hx6 := h5.called hf ho hg hat
  obtain ⟨E6, c6, e6⟩ : ∃ E6 c6, v6 = .slice E6 (s.ca.length + 1) c6 := by have h_ := own_slice hx6.m.cal; rwa [List.length_append] at h_
  subst e6
  have r1 := blk_grown h5.res hg (fun e => h5.not _ _ _ h5.res (.inl rfl) (h5.old hf).1 (.inr (.inr (.inl e.symm))))
  have r2 := blk_grown h5.ins hg (fun e => h5.not _ _ _ h5.ins (.inr rfl) (h5.old hf).2.2 (.inr (.inr (.inl e.symm))))
  have r3 := blk_grown h5.m.box hg h5.m.nc
  exact k E6 c6 w6 hx6 (blk_cell r3 3) (blk_frozen r3 3) ⟨blk_cell r1 0, blk_cell r1 1, blk_cell r1 2, blk_frozen r1 0, blk_frozen r1 1, blk_frozen r1 2, blk_cell r2 0, blk_cell r2 1, blk_frozen r3 1, blk_cell r3 1⟩
end
theorem ret_row {w : World} {base e c : Nat} {l : List Int} (hl : l.length ≠ 0) (ho : w.ownsRow base 3 1 (.slice (some ⟨e, 0, none⟩) l.length c) l.length (nums .i64 l)) :
    w.cell? ⟨e, l.length - 1, none⟩ = some (.int .i64 (lastP l 0)) ∧ w.ownsRow base 3 1 (.slice (some ⟨e, 0, none⟩) (l.length - 1) c) (cutP l 1).length (nums .i64 (cutP l 1)) := by
  have h1 := (own_at ho ((l.length - 1 : Nat) : Int) (by omega) (by omega)).1
  rw [Int.toNat_natCast] at h1
  have e1 : rd l ((l.length - 1 : Nat) : Int) = lastP l 0 := by unfold rd lastP; rw [Int.toNat_natCast]; rfl
  rw [e1] at h1
  refine ⟨h1, ?_⟩
  have := own_take ho (show l.length - 1 ≤ l.length by omega)
  rw [cutP_len]
  simpa [nums, cutP, List.map_take] using this
theorem told_end {W W1 : World} {base g : Nat} {Ac : Option Addr} {cc : Nat} {code : List In} {p : Value} {f : Nat → Prop} {v1 v2 : Value} {s : St} {m : Mem} (h : Mach W base g Ac cc code p f v1 v2 s m) (hbase : base ≤ W.heap.size) (hb1 : Below W.heap.size W W1)
    (y0 : W1.heap[W.heap.size]? = some (.cells #[.int .i64 0, .int .i64 0, .int .i64 0] 53 (0, 0))) (q : Nat) :
    StepPost W base g Ac cc code p f v1 v2 (s, m, 4, 0) (.returned (.agg #[.int .i64 4, .int .i64 0, .int .i64 0])) ((((W1.drewN q).setCell ⟨W.heap.size, 0, none⟩ (.int .i64 4)).setCell ⟨W.heap.size, 1, none⟩ (.int .i64 0)).setCell ⟨W.heap.size, 2, none⟩ (.int .i64 0)) := by
  have hb2 : Below W.heap.size W ((((W1.drewN q).setCell ⟨W.heap.size, 0, none⟩ (.int .i64 4)).setCell ⟨W.heap.size, 1, none⟩ (.int .i64 0)).setCell ⟨W.heap.size, 2, none⟩ (.int .i64 0)) :=
    (((pw_below_drewN hb1 q).setCell (p := ⟨W.heap.size, 0, none⟩) (Nat.le_refl _) _).setCell (p := ⟨W.heap.size, 1, none⟩) (Nat.le_refl _) _).setCell (p := ⟨W.heap.size, 2, none⟩) (Nat.le_refl _) _
  exact ⟨v1, v2, f, rfl, h.step hb2, Mv.of_below hb2 _, .inl rfl, .inl rfl, fun k e => .inl e⟩
end Go.Proofs.Ytkjdhhdkfbkgpaa.VmW
