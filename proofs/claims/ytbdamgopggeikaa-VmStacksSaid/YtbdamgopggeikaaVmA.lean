/- The machine in memory: its box, its rows, its code, its memory; last, leave, has. -/
import Derived.Test.YtbdamgopggeikaaMemV
namespace Go.Proofs.Ytbdamgopggeikaa.VmW
open Go.RowKit Go.Proofs.YtbdamgopggeikaaW.PrintWords Go.Proofs.YtbdamgopggeikaaW.PrintMore Go.Proofs.YtbdamgopggeikaaW.PrintLast Go.Proofs.Ytbdamgopggeikaa.Pvm
set_option linter.unusedVariables false
set_option linter.unusedSimpArgs false
theorem infoI : (Try.prog.info? 3).map (fun i => (i.zero, i.size, i.bytes)) = some (some (.int .i64 0), 1, 8) := by kernel_rfl
def memI (p : Value) : Value := .iface 29 p
structure Mach (W : World) (base g : Nat) (Ac : Option Addr) (cc : Nat) (code : List In) (p : Value) (f : Nat → Prop) (v1 v2 : Value) (s : St) (m : Mem) : Prop where
  box : W.heap[g]? = some (.cells #[.slice Ac code.length cc, .int .i64 s.pc, v1, v2, memI p] 64 (0, 0))
  cde : Kd.C kIn W Ac code.length code
  far : ∀ ad, Ac = some ad → 0 < code.length → ad.block < base ∧ ¬ f ad.block
  gb : base ≤ g
  stk : W.ownsRow base 3 1 v1 s.st.length (nums .i64 s.st)
  cal : W.ownsRow base 3 1 v2 s.ca.length (nums .i64 s.ca)
  ne : NeRow v1 v2
  mem : MemP W p f m
  memf : ∀ k, f k → k ≠ g ∧ v1.ownBlock ≠ some k ∧ v2.ownBlock ≠ some k
def mS (g : Nat) (v1 v2 : Value) (f : Nat → Prop) (k : Nat) : Prop := k = g ∨ v1.ownBlock = some k ∨ v2.ownBlock = some k ∨ f k
section
variable {W W' : World} {base g : Nat} {Ac : Option Addr} {cc : Nat} {code : List In} {p : Value} {f : Nat → Prop} {v1 v2 : Value} {s : St} {m : Mem}
theorem kIn_any {W W' : World} {x : In} {cs : List Value} (h : kIn.K W x cs) : kIn.K W' x cs := by
  obtain rfl := k51_open h
  exact k51_mk W' x
theorem Mach.gl (h : Mach W base g Ac cc code p f v1 v2 s m) : g < W.heap.size := blk_lt h.box
theorem Mach.ns (h : Mach W base g Ac cc code p f v1 v2 s m) : some g ≠ v1.ownBlock := own_ne h.stk h.box (by decide)
theorem Mach.nc (h : Mach W base g Ac cc code p f v1 v2 s m) : some g ≠ v2.ownBlock := own_ne h.cal h.box (by decide)
/-- A world in which none of the machine's blocks has been turned. -/
theorem Mach.step (h : Mach W base g Ac cc code p f v1 v2 s m) (hb : Below W.heap.size W W') : Mach W' base g Ac cc code p f v1 v2 s m := by
  have hm := Mv.of_below hb (fun _ => False)
  exact ⟨hm.blk h.box (fun e => e), Kd.C_below h.cde hb, h.far, h.gb, hm.own h.stk (fun _ _ e => e), hm.own h.cal (fun _ _ e => e), h.ne, h.mem.mv hm (fun _ _ e => e), h.memf⟩
/-- The box alone has been turned. -/
theorem Mach.set (h : Mach W base g Ac cc code p f v1 v2 s m) (j : Nat) (u : Value) : Kd.C kIn (W.setCell ⟨g, j, none⟩ u) Ac code.length code ∧ (W.setCell ⟨g, j, none⟩ u).ownsRow base 3 1 v1 s.st.length (nums .i64 s.st) ∧ (W.setCell ⟨g, j, none⟩ u).ownsRow base 3 1 v2 s.ca.length (nums .i64 s.ca) ∧ MemP (W.setCell ⟨g, j, none⟩ u) p f m := by
  have hm : Mv W (W.setCell ⟨g, j, none⟩ u) (fun k => k = g) := (Mv.refl W (fun k => k = g)).set (p := ⟨g, j, none⟩) (.inl rfl) u
  exact ⟨hm.C kIn_any h.cde (fun ad e hp => by have := (h.far ad e hp).1; have := h.gb; omega), own_setCell h.stk h.ns u, own_setCell h.cal h.nc u, h.mem.mv hm (fun k hk => (h.memf k hk).1)⟩
theorem Mach.pc (h : Mach W base g Ac cc code p f v1 v2 s m) (x : Int) : Mach (W.setCell ⟨g, 1, none⟩ (.int .i64 x)) base g Ac cc code p f v1 v2 ⟨x, s.st, s.ca⟩ m :=
  ⟨blk_set h.box 1 _, (h.set 1 _).1, h.far, h.gb, (h.set 1 _).2.1, (h.set 1 _).2.2.1, h.ne, (h.set 1 _).2.2.2, h.memf⟩
/-- The stack has another row, which is not the other ones'. -/
theorem Mach.stack {v1' : Value} {l : List Int} {w1 : World} (h : Mach W base g Ac cc code p f v1 v2 s m) (ho : w1.ownsRow base 3 1 v1' l.length (nums .i64 l)) (hg : W.grownBy w1 v1.ownBlock) (hat : v1'.ownBlock = v1.ownBlock ∨ ∃ b, v1'.ownBlock = some b ∧ W.heap.size ≤ b) :
    Mach (w1.setCell ⟨g, 2, none⟩ v1') base g Ac cc code p f v1' v2 ⟨s.pc, l, s.ca⟩ m ∧ Mv W (w1.setCell ⟨g, 2, none⟩ v1') (mS g v1 v2 f) := by
  have hm1 : Mv W w1 (fun k => v1.ownBlock = some k) := Mv.of_grown hg (fun k e => .inl e)
  have hbx : w1.heap[g]? = _ := hm1.blk h.box (fun e => h.ns e.symm)
  have hm2 : Mv w1 (w1.setCell ⟨g, 2, none⟩ v1') (fun k => k = g) := (Mv.refl w1 (fun k => k = g)).set (p := ⟨g, 2, none⟩) (.inl rfl) _
  have hm : Mv W (w1.setCell ⟨g, 2, none⟩ v1') (fun k => k = g ∨ v1.ownBlock = some k) := (hm1.mono (S' := fun k => k = g ∨ v1.ownBlock = some k) (fun k e => .inl (.inr e))).trans hm2 (fun k e => .inl (.inl e))
  have hne1 : some g ≠ v1'.ownBlock := own_ne ho hbx (by decide)
  have hnew : ∀ k, v1'.ownBlock = some k → v1.ownBlock = some k ∨ W.heap.size ≤ k := fun k e => by
    rcases hat with hat | ⟨b, hb, hle⟩
    · exact .inl (hat ▸ e)
    · rw [hb] at e; exact .inr (by have := Option.some.inj e; omega)
  refine ⟨⟨blk_set hbx 2 _, hm.C kIn_any h.cde (fun ad e hp => ?_), h.far, h.gb, own_setCell ho hne1 _, hm.own h.cal (fun k e e2 => ?_), fun k e e2 => ?_, h.mem.mv hm (fun k hk e => ?_), fun k hk => ⟨(h.memf k hk).1, fun e => ?_, (h.memf k hk).2.2⟩⟩, hm.mono (fun k e => .inl (e.elim .inl (fun e => .inr (.inl e))))⟩
  · have h1 := (h.far ad e hp).1
    have h2 := h.gb
    rintro (e3 | e3)
    · omega
    · have := own_base h.stk _ e3; omega
  · rcases e2 with e2 | e2
    · exact h.nc (by rw [e, e2])
    · exact h.ne k e2 e
  · rcases hnew k e with e1 | e1
    · exact h.ne k e1 e2
    · have := own_lt h.cal k e2; omega
  · rcases e with e | e
    · exact (h.memf k hk).1 e
    · exact (h.memf k hk).2.1 e
  · rcases hnew k e with e1 | e1
    · exact (h.memf k hk).2.1 e1
    · have := h.mem.lt k hk; omega
/-- The calls have another row. -/
theorem Mach.call {v2' : Value} {l : List Int} {w1 : World} (h : Mach W base g Ac cc code p f v1 v2 s m) (ho : w1.ownsRow base 3 1 v2' l.length (nums .i64 l)) (hg : W.grownBy w1 v2.ownBlock) (hat : v2'.ownBlock = v2.ownBlock ∨ ∃ b, v2'.ownBlock = some b ∧ W.heap.size ≤ b) :
    Mach (w1.setCell ⟨g, 3, none⟩ v2') base g Ac cc code p f v1 v2' ⟨s.pc, s.st, l⟩ m ∧ Mv W (w1.setCell ⟨g, 3, none⟩ v2') (mS g v1 v2 f) := by
  have hm1 : Mv W w1 (fun k => v2.ownBlock = some k) := Mv.of_grown hg (fun k e => .inl e)
  have hbx : w1.heap[g]? = _ := hm1.blk h.box (fun e => h.nc e.symm)
  have hm2 : Mv w1 (w1.setCell ⟨g, 3, none⟩ v2') (fun k => k = g) := (Mv.refl w1 (fun k => k = g)).set (p := ⟨g, 3, none⟩) (.inl rfl) _
  have hm : Mv W (w1.setCell ⟨g, 3, none⟩ v2') (fun k => k = g ∨ v2.ownBlock = some k) := (hm1.mono (S' := fun k => k = g ∨ v2.ownBlock = some k) (fun k e => .inl (.inr e))).trans hm2 (fun k e => .inl (.inl e))
  have hne1 : some g ≠ v2'.ownBlock := own_ne ho hbx (by decide)
  have hnew : ∀ k, v2'.ownBlock = some k → v2.ownBlock = some k ∨ W.heap.size ≤ k := fun k e => by
    rcases hat with hat | ⟨b, hb, hle⟩
    · exact .inl (hat ▸ e)
    · rw [hb] at e; exact .inr (by have := Option.some.inj e; omega)
  refine ⟨⟨blk_set hbx 3 _, hm.C kIn_any h.cde (fun ad e hp => ?_), h.far, h.gb, hm.own h.stk (fun k e e2 => ?_), own_setCell ho hne1 _, fun k e e2 => ?_, h.mem.mv hm (fun k hk e => ?_), fun k hk => ⟨(h.memf k hk).1, (h.memf k hk).2.1, fun e => ?_⟩⟩, hm.mono (fun k e => .inl (e.elim .inl (fun e => .inr (.inr (.inl e)))))⟩
  · have h1 := (h.far ad e hp).1
    have h2 := h.gb
    rintro (e3 | e3)
    · omega
    · have := own_base h.cal _ e3; omega
  · rcases e2 with e2 | e2
    · exact h.ns (by rw [e, e2])
    · exact h.ne k e e2
  · rcases hnew k e2 with e1 | e1
    · exact h.ne k e e1
    · have := own_lt h.stk k e; omega
  · rcases e with e | e
    · exact (h.memf k hk).1 e
    · exact (h.memf k hk).2.2 e
  · rcases hnew k e with e1 | e1
    · exact (h.memf k hk).2.2 e1
    · have := h.mem.lt k hk; omega
/-- The memory has been turned. -/
theorem Mach.memory {m' : Mem} {f' : Nat → Prop} (h : Mach W base g Ac cc code p f v1 v2 s m) (hb : base ≤ W.heap.size) (hm : Mv W W' f) (hp : MemP W' p f' m') (hf : ∀ k, f' k → f k ∨ W.heap.size ≤ k) : Mach W' base g Ac cc code p f' v1 v2 s m' :=
  ⟨hm.blk h.box (fun e => (h.memf g e).1 rfl), hm.C kIn_any h.cde (fun ad e hp => (h.far ad e hp).2), fun ad e hp => ⟨(h.far ad e hp).1, fun e2 => (hf _ e2).elim (h.far ad e hp).2 (fun hle => by have := (h.far ad e hp).1; omega)⟩, h.gb, hm.own h.stk (fun k e e2 => (h.memf k e2).2.1 e), hm.own h.cal (fun k e e2 => (h.memf k e2).2.2 e), h.ne, hp,
   fun k hk => (hf k hk).elim (h.memf k) (fun hle => ⟨fun e => by have := h.gl; omega, fun e => by have := own_lt h.stk k e; omega, fun e => by have := own_lt h.cal k e; omega⟩)⟩
end
theorem row_some {W : World} {base n : Nat} {e : TypeId} {A : Option Addr} {c : Nat} {xs : List Value} (h : W.ownsRow base e 1 (.slice A n c) n xs) (hn : 0 < n) : ∃ b, A = some ⟨b, 0, none⟩ := by
  rcases h.2 with ⟨_, hz⟩ | ⟨b, cap, cur, e, _⟩
  · omega
  · injection e with e; exact ⟨b, e⟩
set_option maxHeartbeats 4000000 in
set_option maxRecDepth 100000 in
theorem last_calls (W : World) (base g b : Nat) (st : List Int) (c k : Nat) (u : Value) (ho : W.ownsRow base 3 1 (.slice (some ⟨b, 0, none⟩) st.length c) st.length (nums .i64 st)) (hc : W.cell? ⟨g, 2, none⟩ = some (.slice (some ⟨b, 0, none⟩) st.length c)) (hk : k < st.length) (hl : st.length ≤ 64) :
    Calls Try.prog 38 #[.pointer (some ⟨g, 0, none⟩), .int .i64 (k : Int)] W fun e W' => e = .returned (.int .i64 (lastP st k)) ∧ ∃ n, W' = W.drewN n := by
  have hi := (own_at ho ((st.length - 1 - k : Nat) : Int) (by omega) (by omega)).1
  rw [Int.toNat_natCast] at hi
  have hlast : rd st ((st.length - 1 - k : Nat) : Int) = lastP st k := by unfold rd lastP; rw [Int.toNat_natCast]
  rw [hlast] at hi
  have e1 : wrap64 ((st.length : Int) - 1) = (st.length : Int) - 1 := by unfold wrap64; omega
  have e2 : wrap64 ((st.length : Int) - 1 - (k : Int)) = ((st.length - 1 - k : Nat) : Int) := by unfold wrap64; omega
  have q0 : (0 : Int) ≤ ((st.length - 1 - k : Nat) : Int) := by omega
  have q1 : ((st.length - 1 - k : Nat) : Int) < (st.length : Int) := by omega
  have HO := Aside0.mk ho
  have HK := Aside0.mk hk
  generalize (st.length - 1 - k : Nat) = j at *
  generalize lastP st k = r at *
  clear ho hlast hk
  go_enter Try.func38, Try.ntmps38
  go_wp2
  go_quiet (fail)
  go_wp2
  go_ret
  exact ⟨rfl, _, rfl⟩
end Go.Proofs.Ytbdamgopggeikaa.VmW
