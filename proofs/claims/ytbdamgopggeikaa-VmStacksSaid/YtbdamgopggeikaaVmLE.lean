/- One fact for what a law of the machine has in memory: boxes and rows of its own; the calls told by it. -/
import Derived.Test.YtbdamgopggeikaaVmL
namespace Go.Proofs.Ytbdamgopggeikaa.VmW
open Go.RowKit Go.Proofs.YtbdamgopggeikaaW.PrintWords Go.Proofs.YtbdamgopggeikaaW.PrintMore Go.Proofs.YtbdamgopggeikaaW.PrintLast Go.Proofs.Ytbdamgopggeikaa.Pvm
set_option linter.unusedVariables false
set_option linter.unusedSimpArgs false
abbrev Bx := List (Nat × Array Value × Nat)
abbrev Ro := List (Option Addr × Nat × List Int)
structure LE (w0 : World) (bs : Bx) (os : Ro) (W : World) : Prop where
  below : Below w0.heap.size w0 W
  box : ∀ b ∈ bs, W.heap[b.1]? = some (.cells b.2.1 b.2.2 (0, 0)) ∧ b.2.2 ≠ 43 ∧ b.2.2 ≠ 5 ∧ b.2.2 ≠ 3
  own : ∀ r ∈ os, W.ownsRow w0.heap.size 3 1 (.slice r.1 r.2.2.length r.2.1) r.2.2.length (nums .i64 r.2.2)
section
variable {w0 W W' : World} {bs : Bx} {os : Ro}
theorem LE.start (w : World) : LE w [] [] w := ⟨Below.refl _ _, by simp, by simp⟩
theorem LE.step (h : LE w0 bs os W) (hb : Below W.heap.size W W') : LE w0 bs os W' :=
  ⟨below_step h.below hb, fun b hb' => ⟨(hb.block _ (blk_lt (h.box b hb').1)).trans (h.box b hb').1, (h.box b hb').2⟩, fun r hr => pw_own_below (h.own r hr) hb⟩
theorem LE.boxed (h : LE w0 bs os W) (cs : Array Value) (t : Nat) (n : Nat) (hn : n = W.heap.size) (ht : t ≠ 43 ∧ t ≠ 5 ∧ t ≠ 3) : LE w0 ((n, cs, t) :: bs) os (W.alloc (.cells cs t)) := by
  subst hn
  have hs := h.step (below_alloc (Below.refl W.heap.size W) (.cells cs t))
  refine ⟨hs.below, fun b hb => ?_, hs.own⟩
  rcases List.mem_cons.1 hb with rfl | hb
  · exact ⟨heap_alloc_new W _, ht⟩
  · exact hs.box b hb
/-- What a run returns, boxed. -/
theorem LE.res (h : LE w0 bs os W) (x y z a b c : Value) : LE w0 ((W.heap.size + 1, #[a, b, c], 33) :: (W.heap.size, #[x, y, z], 25) :: bs) os ((W.alloc (.cells #[x, y, z] 25)).alloc (.cells #[a, b, c] 33)) :=
  (h.boxed #[x, y, z] 25 W.heap.size rfl (by decide)).boxed #[a, b, c] 33 (W.heap.size + 1) (by simp) (by decide)
theorem LE.add (h : LE w0 bs os W) {A : Option Addr} {c : Nat} {l : List Int} (ho : W.ownsRow w0.heap.size 3 1 (.slice A l.length c) l.length (nums .i64 l)) : LE w0 bs ((A, c, l) :: os) W :=
  ⟨h.below, h.box, fun r hr => (List.mem_cons.1 hr).elim (fun e => e ▸ ho) (h.own r)⟩
theorem LE.b (h : LE w0 bs os W) {n : Nat} {cs : Array Value} {t : Nat} (hm : (n, cs, t) ∈ bs) : W.heap[n]? = some (.cells cs t (0, 0)) := (h.box _ hm).1
theorem LE.c (h : LE w0 bs os W) {n : Nat} {cs : Array Value} {t : Nat} (hm : (n, cs, t) ∈ bs) (i : Nat) : W.cell? ⟨n, i, none⟩ = cs[i]? := blk_cell (h.b hm) i
theorem LE.r (h : LE w0 bs os W) {A : Option Addr} {c : Nat} {l : List Int} (hm : (A, c, l) ∈ os) : Kd.C (Kd.int .i64) W A l.length l ∧ l.length ≤ c := own_C (h.own _ hm)
/-- A memory of the law's own. -/
structure MemL (w0 : World) (W : World) (mb : Nat) (v : Value) (m : Mem) : Prop where
  at_ : MemAt W mb v m
  lo : w0.heap.size ≤ mb
  hi : ∀ k, v.ownBlock = some k → w0.heap.size ≤ k
theorem MemL.step {mb : Nat} {v : Value} {m : Mem} (h : MemL w0 W mb v m) (hb : Below W.heap.size W W') : MemL w0 W' mb v m := ⟨h.at_.mv (Mv.of_below hb (fun _ => False)) (fun e => e) (fun _ _ e => e), h.lo, h.hi⟩
theorem MemL.mv {mb : Nat} {v : Value} {m : Mem} (h : MemL w0 W mb v m) {S : Nat → Prop} (hm : Mv W W' S) (hs : ∀ k, memF mb v k → ¬ S k) : MemL w0 W' mb v m := ⟨h.at_.mv hm (hs _ (.inl rfl)) (fun k e => hs k (.inr e)), h.lo, h.hi⟩
theorem MemL.typ {mb : Nat} {v : Value} {m : Mem} (h : MemL w0 W mb v m) : ∀ k, memF mb v k → w0.heap.size ≤ k ∧ ∃ cells t, W.heap[k]? = some (.cells cells t (0, 0)) ∧ (t = 43 ∨ t = 5) := by
  rintro k (rfl | e)
  · exact ⟨h.lo, _, _, h.at_.box, .inl rfl⟩
  · obtain ⟨cs, hh⟩ := own_typed h.at_.row k e
    exact ⟨h.hi k e, cs, _, hh, .inr rfl⟩
theorem LE.mv {mb : Nat} {v : Value} {m : Mem} (h : LE w0 bs os W) (hM : MemL w0 W mb v m) (hm : Mv W W' (memF mb v)) : LE w0 bs os W' := by
  refine ⟨run_below h.below hm (fun k e => (hM.typ k e).1), fun b hb => ⟨hm.blk (h.box b hb).1 (fun e => ?_), (h.box b hb).2⟩, fun r hr => hm.own (h.own r hr) (fun k e e2 => ?_)⟩
  · obtain ⟨_, cells, t, hh, ht⟩ := hM.typ _ e
    rw [(h.box b hb).1] at hh
    injection hh with hh
    injection hh with _ hh
    rcases ht with ht | ht
    · exact (h.box b hb).2.1 (hh.trans ht)
    · exact (h.box b hb).2.2.1 (hh.trans ht)
  · obtain ⟨_, cells, t, hh, ht⟩ := hM.typ _ e2
    obtain ⟨cs, h2⟩ := own_typed (h.own r hr) k e
    rw [h2] at hh
    injection hh with hh
    injection hh with _ hh
    rcases ht with ht | ht <;> rw [ht] at hh <;> exact absurd hh (by decide)
/-- A code that came in. -/
theorem far_in {w0 W : World} {mb : Nat} {v : Value} {m : Mem} {Ac : Option Addr} {code : List In} (hC : Kd.C kIn w0 Ac code.length code) (hM : MemL w0 W mb v m) : ∀ ad, Ac = some ad → 0 < code.length → ¬ memF mb v ad.block := by
  intro ad e hp
  obtain ⟨b, o, e2, hb, _⟩ := code_at hC hp
  rw [e] at e2
  injection e2 with e2
  subst e2
  rintro (e3 | e3)
  · have := hM.lo; simp only at e3; omega
  · have := hM.hi _ e3; simp only at this; omega
/-- A code of the law's own. -/
theorem LE.code (h : LE w0 bs os W) {a : Nat} {l : List In} {cs : Array Value} (hm : (a, cs, 51) ∈ bs) (hcs : cs = (inCells l).toArray) (hl : l.length ≤ 1024) : Kd.C kIn W (some ⟨a, 0, none⟩) l.length l := by
  subst hcs
  refine ⟨rfl, by omega, fun hp => ⟨_, rfl, fun j i hj => ?_⟩⟩
  obtain ⟨hjl, e⟩ := List.getElem?_eq_some_iff.1 hj
  subst e
  refine ⟨[.int .i64 l[j].f0, .int .i64 l[j].f1], rfl, k51_mk _ _, fun q u hq => ?_⟩
  rw [add_plain]
  have h2 := inCells_get l j hjl
  have : W.cell? ⟨a, j * 2 + q, none⟩ = (inCells l)[j * 2 + q]? := by rw [h.c hm]; simp
  show W.cell? ⟨a, j * 2 + q, none⟩ = some u
  rw [this]
  match q, hq with
  | 0, hq => rw [← hq]; exact h2.1
  | 1, hq => rw [← hq]; exact h2.2
  | q + 2, hq => simp at hq
theorem LE.codeFar (h : LE w0 bs os W) {n : Nat} {a : Nat} {cs : Array Value} (hm : (a, cs, 51) ∈ bs) {mb : Nat} {v : Value} {m : Mem} (hM : MemL w0 W mb v m) : ∀ ad, (some ⟨a, 0, none⟩ : Option Addr) = some ad → 0 < n → ¬ memF mb v ad.block := by
  intro ad e _ e2
  injection e with e
  subst e
  obtain ⟨_, cells, t, hh, ht⟩ := hM.typ _ e2
  rw [h.b hm] at hh
  injection hh with hh
  injection hh with _ hh
  rcases ht with ht | ht <;> rw [ht] at hh <;> exact absurd hh (by decide)
def FillE (w0 W : World) (bs : Bx) (os : Ro) (s : ByteArray) (n : Nat) (e : Ending) (W' : World) : Prop := ∃ v, e = .returned (.pointer (some ⟨n, 0, none⟩)) ∧ LE w0 bs os W' ∧ MemL w0 W' n v ⟨bytesOf s, 0, 0⟩ ∧ Below W.heap.size W W'
theorem fillE (h : LE w0 bs os W) (s : ByteArray) (hs : s.size ≤ 140737488355328) (n : Nat) (hn : n = W.heap.size) : Calls Try.prog 11 #[.string s] W (FillE w0 W bs os s n) := by
  subst hn
  exact (filled_calls s W hs).mono fun e w' ⟨v, he, hm, hb, hv⟩ => ⟨v, he, h.step hb, ⟨hm, h.below.size, fun k hk => Nat.le_trans h.below.size (hv k hk)⟩, hb⟩
def RunE (w0 W : World) (bs : Bx) (os : Ro) (mb : Nat) (v : Value) (r : Res) (e : Ending) (W' : World) : Prop :=
  ∃ B1 d1 B2 d2 v', e = .returned (.tuple #[.agg #[.int .i64 r.s.pc, .slice B1 r.s.st.length d1, .slice B2 r.s.ca.length d2], .agg #[.int .i64 r.kind, .int .i64 r.trap, .int .i64 r.used], .int .i64 r.err]) ∧
    LE w0 bs ((B1, d1, r.s.st) :: (B2, d2, r.s.ca) :: os) W' ∧ MemL w0 W' mb v' r.m ∧ Mv W W' (memF mb v) ∧ (∀ k, memF mb v' k → memF mb v k ∨ W.heap.size ≤ k)
theorem runE (h : LE w0 bs os W) {Ac : Option Addr} {cc : Nat} {code : List In} (hC : Kd.C kIn W Ac code.length code) (hcap : code.length ≤ cc) {s : St} {A1 A2 : Option Addr} {c1 c2 : Nat} (h1 : Kd.C (Kd.int .i64) W A1 s.st.length s.st) (h2 : Kd.C (Kd.int .i64) W A2 s.ca.length s.ca)
    {mb : Nat} {v : Value} {m : Mem} (hM : MemL w0 W mb v m) (hfar : ∀ ad, Ac = some ad → 0 < code.length → ¬ memF mb v ad.block) {fuel : Int} {r : Res} (hr : runAll code s m fuel = r) :
    Calls Try.prog 13 #[.slice Ac code.length cc, .agg #[.int .i64 s.pc, .slice A1 s.st.length c1, .slice A2 s.ca.length c2], .iface 29 (.pointer (some ⟨mb, 0, none⟩)), .int .i64 fuel] W (RunE w0 W bs os mb v r) := by
  subst hr
  refine (run_calls W Ac cc code hC hcap s A1 A2 c1 c2 h1 h2 (.pointer (some ⟨mb, 0, none⟩)) (memF mb v) m hM.at_.p hfar fuel).mono ?_
  rintro e W' ⟨B1, d1, B2, d2, f', he, ho1, ho2, _, hp, hv, hf, _⟩
  obtain ⟨mb', v', e1, hm', hf'⟩ := hp
  obtain rfl : mb = mb' := by injection e1 with e1; injection e1 with e1; injection e1 with e1
  have h3 := h.mv hM hv
  have hlo := h.below.size
  refine ⟨B1, d1, B2, d2, v', he, (h3.add (own_less ho2 hlo)).add (own_less ho1 hlo), ⟨hm', hM.lo, fun k e => ?_⟩, hv, fun k e => hf k ((hf' k).2 (e.imp id id))⟩
  rcases hf k ((hf' k).2 (.inr e)) with e2 | e2
  · exact (hM.typ k e2).1
  · omega
/-- The same at a state that nobody made. -/
theorem runZ (h : LE w0 bs os W) {Ac : Option Addr} {cc : Nat} {code : List In} (n : Nat) (hn : code.length = n) (hC : Kd.C kIn W Ac code.length code) (hcap : code.length ≤ cc)
    {mb : Nat} {v : Value} {m : Mem} (hM : MemL w0 W mb v m) (hfar : ∀ ad, Ac = some ad → 0 < code.length → ¬ memF mb v ad.block) {fuel : Int} {r : Res} (hr : runAll code ⟨0, [], []⟩ m fuel = r) :
    Calls Try.prog 13 #[.slice Ac n cc, .agg #[.int .i64 0, .slice none 0 0, .slice none 0 0], .iface 29 (.pointer (some ⟨mb, 0, none⟩)), .int .i64 fuel] W (RunE w0 W bs os mb v r) := by
  subst hn
  exact runE h hC hcap (s := ⟨0, [], []⟩) (Kd.C_nil _ _) (Kd.C_nil _ _) hM hfar hr
theorem awakeE (h : LE w0 bs os W) : Calls Try.prog 10 #[] W fun e W' => e = .returned (.bool true) ∧ LE w0 bs os W' :=
  (awake_calls W).mono fun e w' ⟨he, hb⟩ => ⟨he, h.step hb⟩
theorem nilE (h : LE w0 bs os W) {Ac : Option Addr} {cc : Nat} {code : List In} (hC : Kd.C kIn w0 Ac code.length code) (hcap : code.length ≤ cc) {s : St} {A1 A2 : Option Addr} {c1 c2 : Nat} (h2 : Kd.C (Kd.int .i64) w0 A2 s.ca.length s.ca) {fuel err : Int} (he : (if (chkP code).1 = 0 then 1 else (chkP code).1) = err) :
    Calls Try.prog 13 #[.slice Ac code.length cc, .agg #[.int .i64 s.pc, .slice A1 s.st.length c1, .slice A2 s.ca.length c2], .nilIface, .int .i64 fuel] W fun e W' => e = .returned (.tuple #[.agg #[.int .i64 0, .slice none 0 0, .slice none 0 0], .agg #[.int .i64 0, .int .i64 0, .int .i64 0], .int .i64 err]) ∧ LE w0 bs os W' := by
  subst he
  exact (run_nil W Ac cc code (Kd.C_below hC h.below) hcap s A1 A2 c1 c2 (Kd.C_below h2 h.below) fuel).mono fun e w' ⟨he, hb⟩ => ⟨he, h.step hb⟩
end
end Go.Proofs.Ytbdamgopggeikaa.VmW
