/- Mailboxes: a queue that is written round the end of a list, plainly; what lies in memory. queue.New, given, Len, Items. Rows of messages as cells; copy of one into another; the queue's grow. The queue's grow. -/
import Derived.Test.YtclhddldbfdfdaaProg
import Derived.Test.YtclhddldbfdfdaaHandBase
import Derived.Test.YtclhddldbfdfdaaOwnPut
import Derived.Test.YtclhddldbfdfdaaWMore
import Derived.Test.YtclhddldbfdfdaaWLast
import Derived.Test.YtclhddldbfdfdaaWZeros
namespace Go.Proofs.Ytclhddldbfdfdaa.PoW
open Go.RowKit Go.Proofs.YtclhddldbfdfdaaW.PrintWords Go.Proofs.YtclhddldbfdfdaaW.PrintMore Go.Proofs.YtclhddldbfdfdaaW.PrintLast
set_option linter.unusedVariables false
set_option linter.unusedSimpArgs false
abbrev Msg := Int × ByteArray
def z : Msg := (0, ⟨#[]⟩)
structure Ring (buf : List Msg) (fr : Nat) (l : List Msg) : Prop where
  fits : l.length ≤ buf.length
  from_ : fr = 0 ∨ fr < buf.length
  at_ : ∀ i, i < l.length → l[i]? = buf[(fr + i) % buf.length]?
theorem rmod {fr n i : Nat} (h : fr = 0 ∨ fr < n) (hi : i < n) : (fr + i) % n = if fr + i < n then fr + i else fr + i - n := by
  split
  · exact Nat.mod_eq_of_lt (by omega)
  · rw [Nat.mod_eq_sub_mod (by omega), Nat.mod_eq_of_lt (by omega)]
theorem Ring.push {buf : List Msg} {fr : Nat} {l : List Msg} (h : Ring buf fr l) (x : Msg) (hl : l.length < buf.length) : Ring (buf.set ((fr + l.length) % buf.length) x) fr (l ++ [x]) := by
  refine ⟨by simp; omega, by simpa using h.from_, fun i hi => ?_⟩
  rw [List.length_append, List.length_singleton] at hi
  rw [List.length_set]
  by_cases hil : i = l.length
  · subst hil
    rw [List.getElem?_append_right (Nat.le_refl _), Nat.sub_self, List.getElem?_set_self (Nat.mod_lt _ (by omega))]
    rfl
  · rw [List.getElem?_append_left (by omega), h.at_ i (by omega), List.getElem?_set_ne]
    rw [rmod h.from_ (by omega), rmod h.from_ (by omega)]
    have := h.from_
    split <;> split <;> omega
theorem Ring.head {buf : List Msg} {fr : Nat} {x : Msg} {l : List Msg} (h : Ring buf fr (x :: l)) : fr < buf.length ∧ buf[fr]? = some x := by
  have h0 := h.fits
  simp only [List.length_cons] at h0
  have h1 : fr < buf.length := by rcases h.from_ with h1 | h1 <;> omega
  have h2 := h.at_ 0 (by simp)
  rw [Nat.add_zero, Nat.mod_eq_of_lt h1] at h2
  exact ⟨h1, h2.symm⟩
theorem Ring.pop {buf : List Msg} {fr : Nat} {x : Msg} {l : List Msg} (h : Ring buf fr (x :: l)) (y : Msg) : Ring (buf.set fr y) ((fr + 1) % buf.length) l := by
  have h0 := h.fits
  simp only [List.length_cons] at h0
  obtain ⟨h1, _⟩ := h.head
  refine ⟨by simp; omega, .inr (by rw [List.length_set]; exact Nat.mod_lt _ (by omega)), fun i hi => ?_⟩
  have h2 := h.at_ (i + 1) (by simp; omega)
  rw [List.getElem?_cons_succ] at h2
  rw [List.length_set, h2, Nat.mod_add_mod, show fr + 1 + i = fr + (i + 1) by omega, List.getElem?_set_ne]
  rw [rmod h.from_ (by omega)]
  split <;> omega
theorem Ring.grow {l : List Msg} {m : Nat} (h : l.length ≤ m) : Ring (l ++ List.replicate (m - l.length) z) 0 l := by
  have hl : (l ++ List.replicate (m - l.length) z).length = m := by simp; omega
  refine ⟨by omega, .inl rfl, fun i hi => ?_⟩
  rw [hl, Nat.zero_add, Nat.mod_eq_of_lt (by omega), List.getElem?_append_left hi]
theorem Ring.nil : Ring [] 0 [] := ⟨Nat.le_refl _, .inl rfl, fun i hi => by simp at hi⟩
theorem Ring.self (l : List Msg) : Ring l 0 l := ⟨Nat.le_refl _, .inl rfl, fun i hi => by rw [Nat.zero_add, Nat.mod_eq_of_lt hi]⟩
/-! Kinds -/
def kM : Kd Msg := Kd.pair (Kd.int .i64) Kd.string
theorem kM_K {w : World} {x : Msg} {cs : List Value} (h : kM.K w x cs) : cs = [.int .i64 x.1, .string x.2] := by
  obtain ⟨_, _, rfl, rfl, rfl⟩ := h
  exact rfl
theorem kM_mk (w : World) (x : Msg) : kM.K w x [.int .i64 x.1, .string x.2] := ⟨_, _, rfl, rfl, rfl⟩
theorem kM_M {w : World} {base : Nat} {ok : Nat → Prop} {x : Msg} {cs : List Value} (h : kM.K w x cs) : kM.M w base ok x cs := by
  obtain ⟨_, _, rfl, h1, h2⟩ := h
  exact ⟨_, _, rfl, h1, h2⟩
theorem kM_sz : kM.sz = 2 := rfl
theorem kM_E : kM.E = [] := rfl
/-! Which blocks have been turned -/
structure Mod (W W' : World) (S : Nat → Prop) : Prop where
  os : W'.os = W.os
  tape : W'.tape = W.tape
  output : W'.output = W.output
  size : W.heap.size ≤ W'.heap.size
  block : ∀ k, k < W.heap.size → ¬ S k → W'.heap[k]? = W.heap[k]?
theorem Mod.of_below {W W' : World} (h : Below W.heap.size W W') (S : Nat → Prop) : Mod W W' S := ⟨h.os, h.tape, h.output, h.size, fun k hk _ => h.block k hk⟩
theorem Mod.refl (W : World) (S : Nat → Prop) : Mod W W S := ⟨rfl, rfl, rfl, Nat.le_refl _, fun _ _ _ => rfl⟩
theorem Mod.trans {W W1 W2 : World} {S : Nat → Prop} (h : Mod W W1 S) (h2 : Mod W1 W2 (fun k => S k ∨ W.heap.size ≤ k)) : Mod W W2 S := ⟨h2.os.trans h.os, h2.tape.trans h.tape, h2.output.trans h.output, Nat.le_trans h.size h2.size, fun k hk hn => (h2.block k (Nat.lt_of_lt_of_le hk h.size) (fun e => e.elim hn (fun h => by omega))).trans (h.block k hk hn)⟩
theorem Mod.mono {W W' : World} {S S' : Nat → Prop} (h : Mod W W' S) (hS : ∀ k, k < W.heap.size → S k → S' k) : Mod W W' S' := ⟨h.os, h.tape, h.output, h.size, fun k hk hn => h.block k hk (fun e => hn (hS k hk e))⟩
theorem Mod.set {W W' : World} {S : Nat → Prop} (h : Mod W W' S) (p : Addr) (u : Value) (hp : S p.block ∨ W.heap.size ≤ p.block) : Mod W (W'.setCell p u) S := ⟨h.os, h.tape, h.output, by simpa [World.setCell] using h.size, fun k hk hn => (Below.heap_setCell W' p u k (fun e => by subst e; rcases hp with hp | hp; exact hn hp; omega)).trans (h.block k hk hn)⟩
theorem Mod.alloc {W W' : World} {S : Nat → Prop} (h : Mod W W' S) (o : Obj) : Mod W (W'.alloc o) S := h.trans (.of_below (below_alloc (Below.refl _ _) o) _)
theorem Mod.drew {W W' : World} {S : Nat → Prop} (h : Mod W W' S) : Mod W W'.drew S := ⟨h.os, h.tape, h.output, h.size, h.block⟩
theorem Mod.grown {W W' W2 : World} {S : Nat → Prop} (h : Mod W W' S) {row : Option Nat} (hg : W'.grownBy W2 row) (hr : ∀ k, row = some k → S k ∨ W.heap.size ≤ k) : Mod W W2 S := ⟨hg.os.trans h.os, hg.tape.trans h.tape, hg.output.trans h.output, Nat.le_trans h.size hg.size, fun k hk hn => (hg.block k (Nat.lt_of_lt_of_le hk h.size) (fun e => (hr k e.symm).elim hn (fun h => by omega))).trans (h.block k hk hn)⟩
theorem below_mod {B : Nat} {w W W' : World} {S : Nat → Prop} (h : Below B w W) (m : Mod W W' S) (hS : ∀ k, S k → B ≤ k) (hB : B ≤ W.heap.size) : Below B w W' :=
  ⟨m.os.trans h.os, m.tape.trans h.tape, m.output.trans h.output, Nat.le_trans h.size m.size, fun k hk => (m.block k (by omega) (fun e => by have := hS k e; omega)).trans (h.block k hk)⟩
/-! A queue -/
structure QIn (W : World) (base : Nat) (ok : Nat → Prop) (g room : Nat) (l : List Msg) (v : Value) (fr : Nat) (dr : Int) (buf : List Msg) : Prop where
  box : W.heap[g]? = some (.cells #[.int .i64 (room : Int), v, .int .i64 (fr : Int), .int .i64 (l.length : Int), .int .i64 dr] 85 (0, 0))
  row : Kd.R kM 37 W base (fun k => ok k ∧ k ≠ g) v buf
  ring : Ring buf fr l
  short : buf.length ≤ room
  dr0 : 0 ≤ dr
  dr1 : dr ≤ 4611686018427387904
  okg : ok g
  room0 : 0 < room
  room1 : room ≤ 64
def QAt (W : World) (base : Nat) (ok : Nat → Prop) (g room : Nat) (l : List Msg) : Prop := ∃ v fr dr buf, QIn W base ok g room l v fr dr buf
theorem QIn.lt {W : World} {base : Nat} {ok : Nat → Prop} {g room : Nat} {l : List Msg} {v : Value} {fr : Nat} {dr : Int} {buf : List Msg} (h : QIn W base ok g room l v fr dr buf) : g < W.heap.size := blk_lt h.box
theorem QIn.move {W W' : World} {base : Nat} {ok ok' : Nat → Prop} {g room : Nat} {l : List Msg} {v : Value} {fr : Nat} {dr : Int} {buf : List Msg} (h : QIn W base ok g room l v fr dr buf)
    (hm : ∀ k, ok k → k < W.heap.size → W'.heap[k]? = W.heap[k]?) (ho : ∀ k, ok k → k < W.heap.size → ok' k) : QIn W' base ok' g room l v fr dr buf :=
  ⟨(hm g h.okg h.lt).trans h.box, Kd.R_mono (Kd.R_step (Kd.R_bound h.row) (fun k hk hlt => hm k hk.1.1 hlt)) (fun k hk => ⟨ho k hk.1.1 hk.2.2.1, hk.1.2⟩), h.ring, h.short, h.dr0, h.dr1, ho g h.okg h.lt, h.room0, h.room1⟩
end Go.Proofs.Ytclhddldbfdfdaa.PoW
namespace Go.Proofs.Ytclhddldbfdfdaa.PoW
open Go.RowKit Go.Proofs.YtclhddldbfdfdaaW.PrintWords Go.Proofs.YtclhddldbfdfdaaW.PrintMore Go.Proofs.YtclhddldbfdfdaaW.PrintLast
set_option linter.unusedVariables false
set_option linter.unusedSimpArgs false
theorem infoM : (Try.prog.info? 37).map (fun i => (i.zero, i.size, i.bytes)) = some (some (.agg #[.int .i64 0, .string ⟨#[]⟩]), 2, 24) := by kernel_rfl
set_option maxHeartbeats 4000000 in
set_option maxRecDepth 100000 in
theorem qnew_calls (room : Int) (h0 : 1 ≤ room) (h1 : room ≤ 64) (w : World) :
    Calls Try.prog 21 #[.int .i64 room] w fun e w' => e = .returned (.tuple #[.pointer (some ⟨w.heap.size, 0, none⟩), .int .i64 0]) ∧ w.alloc (.cells #[.int .i64 room, .slice none 0 0, .int .i64 0, .int .i64 0, .int .i64 0] 85 (0, 0)) = w' := by
  have d0 : decide (room < 1) = false := decide_eq_false (by omega)
  have d1 : decide (room > 65536) = false := decide_eq_false (by omega)
  have d2 : decide (65536 < room) = false := decide_eq_false (by omega)
  go_enter Try.func21, Try.ntmps21
  go_wp2
  go_ret2
  exact ⟨rfl, rfl⟩
theorem qat_new (w : World) (base : Nat) (ok : Nat → Prop) (room : Nat) (h0 : 0 < room) (h1 : room ≤ 64) (ho : ok w.heap.size) : QAt (w.alloc (.cells #[.int .i64 (room : Int), .slice none 0 0, .int .i64 0, .int .i64 0, .int .i64 0] 85 (0, 0))) base ok w.heap.size room [] :=
  ⟨_, 0, 0, [], heap_alloc_new w _, Kd.R_nil _ _ _ _ _, Ring.nil, Nat.zero_le _, by decide, by decide, ho, h0, h1⟩
set_option maxHeartbeats 4000000 in
set_option maxRecDepth 100000 in
theorem qgiven_calls (g : Nat) (room : Int) (v x y u : Value) (hr : 0 < room) (W : World) (hb : W.heap[g]? = some (.cells #[.int .i64 room, v, x, y, u] 85 (0, 0))) :
    Calls Try.prog 38 #[.pointer (some ⟨g, 0, none⟩)] W fun e w' => e = .returned (.bool true) ∧ W = w' := by
  have hc : W.cell? ⟨g, 0, none⟩ = some (.int .i64 room) := blk_cell hb 0
  have hd : decide (room > 0) = true := by simpa using hr
  have hd : decide (0 < room) = true := by simpa using hr
  clear hb
  go_enter Try.func38, Try.ntmps38
  go_wp2
  go_ret
  exact ⟨rfl, rfl⟩
section
variable {W : World} {base : Nat} {ok : Nat → Prop} {g room : Nat} {l : List Msg} {v : Value} {fr : Nat} {dr : Int} {buf : List Msg}
theorem QIn.given (h : QIn W base ok g room l v fr dr buf) : Calls Try.prog 38 #[.pointer (some ⟨g, 0, none⟩)] W fun e w' => e = .returned (.bool true) ∧ W = w' := qgiven_calls g _ _ _ _ _ (by have := h.room0; omega) W h.box
set_option maxHeartbeats 4000000 in
set_option maxRecDepth 100000 in
theorem QIn.len (h : QIn W base ok g room l v fr dr buf) : Calls Try.prog 27 #[.pointer (some ⟨g, 0, none⟩)] W fun e w' => e = .returned (.int .i64 (l.length : Int)) ∧ W = w' := by
  have HG := Aside0.mk h.given
  have r3 : W.cell? ⟨g, 3, none⟩ = some (.int .i64 (l.length : Int)) := blk_cell h.box 3
  clear h
  go_enter Try.func27, Try.ntmps27
  go_wp2_with (go_at_call 38; refine HG.out.mono ?_; rintro e w1 ⟨rfl, rfl⟩)
  go_ret
  exact ⟨rfl, rfl⟩
/-- An element's two cells. -/
theorem row_cells {u : Value} {e : Nat} {ok : Nat → Prop} (h : Kd.R kM e W base ok u buf) {j : Nat} (hj : j < buf.length) : ∃ b c, u = .slice (some ⟨b, 0, none⟩) buf.length c ∧ b < W.heap.size ∧ base ≤ b ∧ ok b ∧ W.cell? ⟨b, j * 2, none⟩ = some (.int .i64 buf[j].1) ∧ W.cell? ⟨b, j * 2 + 1, none⟩ = some (.string buf[j].2) ∧ W.frozen? ⟨b, j * 2, none⟩ = false ∧ W.frozen? ⟨b, j * 2 + 1, none⟩ = false := by
  obtain ⟨b, c, rfl, hb, hlt, cells, hh⟩ := Kd.R_form h (by omega)
  obtain ⟨_, hc, hC⟩ := Kd.R_reads' h
  obtain ⟨ad, cs, ha, hl, hk, hcell⟩ := Kd.C_get hC z (j : Int) (by omega) (by omega)
  injection ha with ha
  subst ha
  rw [Int.toNat_natCast, List.getD_eq_getElem?_getD, List.getElem?_eq_getElem hj, Option.getD_some] at hk
  obtain rfl := kM_K hk
  have h0 := hcell 0 _ rfl
  have h1 := hcell 1 _ rfl
  simp only [Int.toNat_natCast, kM_sz, Nat.add_zero] at h0 h1
  rw [Go.WideShapes.add_plain] at h0 h1
  simp only [Nat.zero_add] at h0 h1
  exact ⟨b, c, rfl, hlt, hb, h.1 b rfl, h0, h1, blk_frozen hh _, blk_frozen hh _⟩
theorem wrap_add {a b : Nat} (h : a + b ≤ 1000000) : wrap64 ((a : Int) + (b : Int)) = (a : Int) + (b : Int) := by unfold wrap64; omega
theorem tmod_nat (a n : Nat) : Int.tmod (a : Int) (n : Int) = ((a % n : Nat) : Int) := by rw [Int.tmod_eq_emod_of_nonneg (by omega)]; simp
theorem cell_old {w : World} {ob : Obj} {b o : Nat} {u : Value} (h : b < w.heap.size) (hc : w.cell? ⟨b, o, none⟩ = some u) : (w.drew.alloc ob).cell? ⟨b, o, none⟩ = some u := (World.cell?_alloc_lt w.drew ob ⟨b, o, none⟩ h).trans hc
def ItemsPost (W : World) (l : List Msg) (e : Ending) (W' : World) : Prop := ∃ u, e = .returned u ∧ Kd.R kM 37 W' W.heap.size (fun k => W.heap.size ≤ k) u l ∧ Below W.heap.size W W'
set_option maxHeartbeats 4000000 in
set_option maxRecDepth 100000 in
theorem QIn.items (h : QIn W base ok g room l v fr dr buf) : Calls Try.prog 44 #[.pointer (some ⟨g, 0, none⟩)] W (ItemsPost W l) := by
  have HG := Aside0.mk h.given
  have HQ := Aside0.mk h
  have r3 : W.cell? ⟨g, 3, none⟩ = some (.int .i64 (l.length : Int)) := blk_cell h.box 3
  obtain ⟨B, cv, rfl⟩ := Kd.R_slice h.row
  have hl64 : l.length ≤ 64 := by have := h.ring.fits; have := h.short; have := h.room1; omega
  have hgl := h.lt
  clear h
  go_enter Try.func44, Try.ntmps44
  go_wp2_with (go_at_call 38; refine HG.out.mono ?_; rintro e w1 ⟨rfl, rfl⟩)
  go_loopw [3, 12] (fun t3 t12 wr => ∃ (k : Nat) (A : Option Addr) (c : Nat), k ≤ l.length ∧ t12 = .int .i64 (k : Int) ∧ t3 = .slice A k c ∧ Aside0 (Kd.R kM 37 wr W.heap.size (fun k => W.heap.size ≤ k) (.slice A k c) (l.take k)) ∧ Aside0 (Below W.heap.size W wr)) (fun _ i _ => l.length - (intOf i).toNat)
  case atStart => exact ⟨0, none, 0, Nat.zero_le _, rfl, rfl, Aside0.mk (Kd.R_nil _ _ _ _ _), Aside0.mk (Below.refl _ _)⟩
  case round =>
    obtain ⟨k, A, c, hk, rfl, rfl, HR, HB⟩ := hrel
    by_cases hlt : k < l.length
    · have hbl : k < buf.length := by have := HQ.out.ring.fits; omega
      obtain ⟨b, cb, hv, hbl2, _, _, x0, x1, _, _⟩ := row_cells HQ.out.row (j := (fr + k) % buf.length) (Nat.mod_lt _ (by omega))
      injection hv with hB _ hcv
      subst hB hcv
      replace x0 := (HB.out.cell (p := ⟨b, (fr + k) % buf.length * 2, none⟩) hbl2).trans x0
      replace x1 := (HB.out.cell (p := ⟨b, (fr + k) % buf.length * 2 + 1, none⟩) hbl2).trans x1
      have q1 : wr.cell? ⟨g, 1, none⟩ = some (.slice (some ⟨b, 0, none⟩) buf.length cv) := (HB.out.cell (p := ⟨g, 1, none⟩) hgl).trans (blk_cell HQ.out.box 1)
      have q2 : wr.cell? ⟨g, 2, none⟩ = some (.int .i64 (fr : Int)) := (HB.out.cell (p := ⟨g, 2, none⟩) hgl).trans (blk_cell HQ.out.box 2)
      have i1 : (k : Int) < (l.length : Int) := by omega
      have hz : W.heap.size ≤ wr.heap.size := HB.out.size
      have b64 : buf.length ≤ 64 := Nat.le_trans HQ.out.short HQ.out.room1
      have hfr := HQ.out.ring.from_
      have e1 : wrap64 ((fr : Int) + (k : Int)) = (fr : Int) + (k : Int) := wrap_add (by omega)
      have e2 : Int.tmod ((fr : Int) + (k : Int)) (buf.length : Int) = (((fr + k) % buf.length : Nat) : Int) := tmod_nat (fr + k) buf.length
      have e3 : (buf.length = 0) = False := eq_false (by omega)
      have e4 : ((buf.length : Int) == 0) = false := beq_false_of_ne (by omega)
      have hj : (fr + k) % buf.length < buf.length := Nat.mod_lt _ (by omega)
      have HX := Aside0.mk (show l.take (k + 1) = l.take k ++ [buf[(fr + k) % buf.length]] from by
        rw [List.take_succ_eq_append_getElem hlt]
        have := HQ.out.ring.at_ k hlt
        rw [List.getElem?_eq_getElem hlt, List.getElem?_eq_getElem hj] at this
        rw [Option.some.inj this])
      generalize hx : buf[(fr + k) % buf.length] = x at x0 x1 HX
      clear hx
      generalize hm : (fr + k) % buf.length = m at *
      generalize hn : buf.length = n at *
      clear hm hn
      go_wp2
      refine start_ (n := 22) (S := fun w' => w'.cell? ⟨g, 1, none⟩ = some (.slice (some ⟨b, 0, none⟩) n cv) ∧ w'.cell? ⟨g, 2, none⟩ = some (.int .i64 (fr : Int)) ∧ w'.cell? ⟨b, m * 2, none⟩ = some (.int .i64 x.1) ∧ w'.cell? ⟨b, m * 2 + 1, none⟩ = some (.string x.2)) (ds := [20]) #[false, false, false, false, false, false, false, false, false, false, false, false, false, false, false, false, false, false, false, false, false, false] (by kernel_rfl) rfl rfl ⟨q1, q2, x0, x1⟩ (fun hHeld => ?_)
      refine pure_ (i := 0) (N := some 15) (v := ?_) (a' := ?_) #[true, false, false, false, false, false, false, false, false, false, false, false, false, false, false, false, false, false, false, false, false, false] rfl rfl (by kernel_rfl) (fun _ _ _ h => h) (Or.inl ⟨by rfl, ?_⟩) ?_ ?_
      rotate_left
      · intro w'
        go_simp
        with_reducible rfl
      rotate_left
      · simp only [Act.put, List.setIfInBounds_toArray, List.set_cons_zero, List.set_cons_succ, i64_w, i32_w]
        rfl
      refine pure_ (i := 1) (N := some 16) (v := ?_) (a' := ?_) #[true, true, false, false, false, false, false, false, false, false, false, false, false, false, false, false, false, false, false, false, false, false] rfl rfl (by kernel_rfl) (fun _ _ _ h => h) (Or.inl ⟨by rfl, ?_⟩) ?_ ?_
      rotate_left
      · intro w'
        go_simp
        with_reducible rfl
      rotate_left
      · simp only [Act.put, List.setIfInBounds_toArray, List.set_cons_zero, List.set_cons_succ, i64_w, i32_w]
        rfl
      refine pure_ (i := 2) (N := some 17) (v := ?_) (a' := ?_) #[true, true, true, false, false, false, false, false, false, false, false, false, false, false, false, false, false, false, false, false, false, false] rfl rfl (by kernel_rfl) (fun _ _ _ h => h) (Or.inl ⟨by rfl, ?_⟩) ?_ ?_
      rotate_left
      · intro w'
        go_simp
        with_reducible rfl
      rotate_left
      · simp only [Act.put, List.setIfInBounds_toArray, List.set_cons_zero, List.set_cons_succ, i64_w, i32_w]
        rfl
      refine pure_ (i := 3) (N := some 18) (v := ?_) (a' := ?_) #[true, true, true, true, false, false, false, false, false, false, false, false, false, false, false, false, false, false, false, false, false, false] rfl rfl (by kernel_rfl) (fun _ _ _ h => h) (Or.inl ⟨by rfl, ?_⟩) ?_ ?_
      rotate_left
      · intro w'
        go_simp
        with_reducible rfl
      rotate_left
      · simp only [Act.put, List.setIfInBounds_toArray, List.set_cons_zero, List.set_cons_succ, i64_w, i32_w]
        rfl
      refine pure_ (i := 5) (N := some 20) (v := ?_) (a' := ?_) #[true, true, true, true, false, true, false, false, false, false, false, false, false, false, false, false, false, false, false, false, false, false] rfl rfl (by kernel_rfl) (fun _ _ _ h => h) (Or.inl ⟨by rfl, ?_⟩) ?_ ?_
      rotate_left
      · intro w'
        go_simp
        with_reducible rfl
      rotate_left
      · simp only [Act.put, List.setIfInBounds_toArray, List.set_cons_zero, List.set_cons_succ, i64_w, i32_w]
        rfl
      refine pure_ (i := 6) (N := some 21) (v := ?_) (a' := ?_) #[true, true, true, true, false, true, true, false, false, false, false, false, false, false, false, false, false, false, false, false, false, false] rfl rfl (by kernel_rfl) (fun _ _ _ h => h) (Or.inl ⟨by rfl, ?_⟩) ?_ ?_
      rotate_left
      · intro w'
        go_simp
        with_reducible rfl
      rotate_left
      · simp only [Act.put, List.setIfInBounds_toArray, List.set_cons_zero, List.set_cons_succ, i64_w, i32_w]
        rfl
      refine pure_ (i := 7) (N := some 22) (v := ?_) (a' := ?_) #[true, true, true, true, false, true, true, true, false, false, false, false, false, false, false, false, false, false, false, false, false, false] rfl rfl (by kernel_rfl) (fun _ _ _ h => h) (Or.inl ⟨by rfl, ?_⟩) ?_ ?_
      rotate_left
      · intro w'
        go_simp
        with_reducible rfl
      rotate_left
      · simp only [Act.put, List.setIfInBounds_toArray, List.set_cons_zero, List.set_cons_succ, i64_w, i32_w]
        rfl
      refine pure_ (i := 9) (N := some 24) (v := ?_) (a' := ?_) #[true, true, true, true, false, true, true, true, false, true, false, false, false, false, false, false, false, false, false, false, false, false] rfl rfl (by kernel_rfl) (fun _ _ _ h => h) (Or.inl ⟨by rfl, ?_⟩) ?_ ?_
      rotate_left
      · intro w'
        go_simp
        with_reducible rfl
      rotate_left
      · simp only [Act.put, List.setIfInBounds_toArray, List.set_cons_zero, List.set_cons_succ, i64_w, i32_w]
        rfl
      refine pure_ (i := 11) (N := some 26) (v := ?_) (a' := ?_) #[true, true, true, true, false, true, true, true, false, true, false, true, false, false, false, false, false, false, false, false, false, false] rfl rfl (by kernel_rfl) (fun _ _ _ h => h) (Or.inl ⟨by rfl, ?_⟩) ?_ ?_
      rotate_left
      · intro w'
        go_simp
        with_reducible rfl
      rotate_left
      · simp only [Act.put, List.setIfInBounds_toArray, List.set_cons_zero, List.set_cons_succ, i64_w, i32_w]
        rfl
      refine pure_ (i := 12) (N := some 27) (v := ?_) (a' := ?_) #[true, true, true, true, false, true, true, true, false, true, false, true, true, false, false, false, false, false, false, false, false, false] rfl rfl (by kernel_rfl) (fun _ _ _ h => h) (Or.inl ⟨by rfl, ?_⟩) ?_ ?_
      rotate_left
      · intro w'
        go_simp
        with_reducible rfl
      rotate_left
      · simp only [Act.put, List.setIfInBounds_toArray, List.set_cons_zero, List.set_cons_succ, i64_w, i32_w]
        rfl
      refine pure_ (i := 13) (N := some 28) (v := ?_) (a' := ?_) #[true, true, true, true, false, true, true, true, false, true, false, true, true, true, false, false, false, false, false, false, false, false] rfl rfl (by kernel_rfl) (fun _ _ _ h => h) (Or.inl ⟨by rfl, ?_⟩) ?_ ?_
      rotate_left
      · intro w'
        go_simp
        with_reducible rfl
      rotate_left
      · simp only [Act.put, List.setIfInBounds_toArray, List.set_cons_zero, List.set_cons_succ, i64_w, i32_w]
        rfl
      refine take_ (i := 4) (N := some 19) (v := ?_) (a' := ?_) #[true, true, true, true, true, true, true, true, false, true, false, true, true, true, false, false, false, false, false, false, false, false] rfl rfl (by kernel_rfl) (fun _ _ _ h => h) (Or.inl ⟨by rfl, ?_⟩) hHeld ?_ ?_
      rotate_left
      · rintro w' ⟨s0, s1, s2, s3⟩
        go_simp
        with_reducible rfl
      rotate_left
      · simp only [Act.put, List.setIfInBounds_toArray, List.set_cons_zero, List.set_cons_succ, i64_w, i32_w]
        rfl
      refine take_ (i := 8) (N := some 23) (v := ?_) (a' := ?_) #[true, true, true, true, true, true, true, true, true, true, false, true, true, true, false, false, false, false, false, false, false, false] rfl rfl (by kernel_rfl) (fun _ _ _ h => h) (Or.inl ⟨by rfl, ?_⟩) hHeld ?_ ?_
      rotate_left
      · rintro w' ⟨s0, s1, s2, s3⟩
        go_simp
        with_reducible rfl
      rotate_left
      · simp only [Act.put, List.setIfInBounds_toArray, List.set_cons_zero, List.set_cons_succ, i64_w, i32_w]
        rfl
      refine pure_ (i := 10) (N := some 25) (v := ?_) (a' := ?_) #[true, true, true, true, true, true, true, true, true, true, true, true, true, true, false, false, false, false, false, false, false, false] rfl rfl (by kernel_rfl) (fun _ _ _ h => h) (Or.inl ⟨by rfl, ?_⟩) ?_ ?_
      rotate_left
      · intro w'
        go_simp
        with_reducible rfl
      rotate_left
      · simp only [Act.put, List.setIfInBounds_toArray, List.set_cons_zero, List.set_cons_succ, i64_w, i32_w]
        rfl
      refine take_ (i := 14) (N := some 29) (v := ?_) (a' := ?_) #[true, true, true, true, true, true, true, true, true, true, true, true, true, true, true, false, false, false, false, false, false, false] rfl rfl (by kernel_rfl) (fun _ _ _ h => h) (Or.inl ⟨by rfl, ?_⟩) hHeld ?_ ?_
      rotate_left
      · rintro w' ⟨s0, s1, s2, s3⟩
        go_simp
        with_reducible rfl
      rotate_left
      · simp only [Act.put, List.setIfInBounds_toArray, List.set_cons_zero, List.set_cons_succ, i64_w, i32_w]
        rfl
      refine pure_ (i := 15) (N := some 30) (v := ?_) (a' := ?_) #[true, true, true, true, true, true, true, true, true, true, true, true, true, true, true, true, false, false, false, false, false, false] rfl rfl (by kernel_rfl) (fun _ _ _ h => h) (Or.inl ⟨by rfl, ?_⟩) ?_ ?_
      rotate_left
      · intro w'
        go_simp
        with_reducible rfl
      rotate_left
      · simp only [Act.put, List.setIfInBounds_toArray, List.set_cons_zero, List.set_cons_succ, i64_w, i32_w]
        rfl
      refine pure_ (i := 16) (N := some 31) (v := ?_) (a' := ?_) #[true, true, true, true, true, true, true, true, true, true, true, true, true, true, true, true, true, false, false, false, false, false] rfl rfl (by kernel_rfl) (fun _ _ _ h => h) (Or.inl ⟨by rfl, ?_⟩) ?_ ?_
      rotate_left
      · intro w'
        go_simp
        with_reducible rfl
      rotate_left
      · simp only [Act.put, List.setIfInBounds_toArray, List.set_cons_zero, List.set_cons_succ, i64_w, i32_w]
        rfl
      refine pure_ (i := 17) (N := some 32) (v := ?_) (a' := ?_) #[true, true, true, true, true, true, true, true, true, true, true, true, true, true, true, true, true, true, false, false, false, false] rfl rfl (by kernel_rfl) (fun _ _ _ h => h) (Or.inl ⟨by rfl, ?_⟩) ?_ ?_
      rotate_left
      · intro w'
        go_simp
        with_reducible rfl
      rotate_left
      · simp only [Act.put, List.setIfInBounds_toArray, List.set_cons_zero, List.set_cons_succ, i64_w, i32_w]
        rfl
      refine take_ (i := 18) (N := some 33) (v := ?_) (a' := ?_) #[true, true, true, true, true, true, true, true, true, true, true, true, true, true, true, true, true, true, true, false, false, false] rfl rfl (by kernel_rfl) (fun _ _ _ h => h) (Or.inl ⟨by rfl, ?_⟩) hHeld ?_ ?_
      rotate_left
      · rintro w' ⟨s0, s1, s2, s3⟩
        go_simp
        with_reducible rfl
      rotate_left
      · simp only [Act.put, List.setIfInBounds_toArray, List.set_cons_zero, List.set_cons_succ, i64_w, i32_w]
        rfl
      refine one_ (i := 19) (N := some 34) #[true, true, true, true, true, true, true, true, true, true, true, true, true, true, true, true, true, true, true, true, false, false] rfl rfl (by kernel_rfl) (by decide) (fun K hK => ?_)
      refine value_ (w1 := (wr.drew.alloc (.cells #[.int .i64 x.1, .string x.2] 37))) (v := ?_) (by rfl) rfl ?_ ?_
      rotate_left 1
      · go_simp
        first | rfl | (constructor <;> rfl)
      refine hK.out _ _ ⟨cell_old (by omega) q1, cell_old (by omega) q2, cell_old (by omega) x0, cell_old (by omega) x1⟩ (fun hHeld => ?_)
      clear hK K
      refine norm_ (a' := ?_) ?_ ?_
      rotate_left
      · show Act.put _ (some 34) _ = _
        simp only [Act.put, List.setIfInBounds_toArray, List.set_cons_zero, List.set_cons_succ, i64_w, i32_w]
        rfl
      refine last_ (i := 20) (N := some 35) #[true, true, true, true, true, true, true, true, true, true, true, true, true, true, true, true, true, true, true, true, true, false] rfl rfl (by kernel_rfl) (by decide) (fun K hK => ?_)
      refine Kd.R_append_step kM (w0 := W) W.heap.size (by rfl) (.tmp 15) (.tmp 34) 83 37 (.agg #[.int .i64 0, .string ⟨#[]⟩]) 24 rfl Try.underlying83 infoM (by rfl) (by decide) (by decide) (.slice A k c) (l.take k) x [.int .i64 x.1, .string x.2] (fun k => W.heap.size ≤ k) (fun _ => False) rfl rfl (kM_M (kM_mk _ _)) (fun _ h => h.elim) (fun k hk => Nat.le_trans hz hk) (Kd.R_drew HR.out) (below_drew HB.out) hz (by rw [List.length_take]; omega) ?_
      intro v1 w1 hR1 hB1 hg1 hat1
      obtain ⟨A1, c1, rfl⟩ := Kd.R_slice hR1
      have HR1 := Aside0.mk hR1
      have HB1 := Aside0.mk hB1
      clear hR1 hB1 hg1 hat1
      refine hK.out _ _ ?_
      clear hK K
      refine norm_ (a' := ?_) ?_ ?_
      rotate_left
      · show Act.put _ (some 35) _ = _
        simp only [Act.put, List.setIfInBounds_toArray, List.set_cons_zero, List.set_cons_succ, i64_w, i32_w]
        rfl
      refine pure_ (i := 21) (N := some 3) (v := ?_) (a' := ?_) #[true, true, true, true, true, true, true, true, true, true, true, true, true, true, true, true, true, true, true, true, true, true] rfl rfl (by kernel_rfl) (fun _ _ _ h => h) (Or.inl ⟨by rfl, ?_⟩) ?_ ?_
      rotate_left
      · intro w'
        go_simp
        with_reducible rfl
      rotate_left
      · simp only [Act.put, List.setIfInBounds_toArray, List.set_cons_zero, List.set_cons_succ, i64_w, i32_w]
        rfl
      refine done_ (by kernel_rfl) ?_

      go_wp2
      have h1 := HR1.out
      have hlen : (l.take (k + 1)).length = k + 1 := by rw [List.length_take, Nat.min_eq_left (by omega)]
      rw [← HX.out, hlen] at h1
      exact ⟨⟨k + 1, A1, c1, by omega, by go_num, rfl, Aside0.mk h1, HB1⟩, by simp [intOf]; omega⟩
    · obtain rfl : k = l.length := by omega
      have i1 : ¬ ((l.length : Int) < (l.length : Int)) := by omega
      go_wp2
      go_ret
      have h1 := HR.out
      rw [List.take_length] at h1
      exact ⟨_, rfl, h1, HB.out⟩
end
end Go.Proofs.Ytclhddldbfdfdaa.PoW
namespace Go.Proofs.Ytclhddldbfdfdaa.PoW
open Go.RowKit Go.Proofs.YtclhddldbfdfdaaW.PrintWords Go.Proofs.YtclhddldbfdfdaaW.PrintMore Go.Proofs.YtclhddldbfdfdaaW.PrintLast
set_option linter.unusedVariables false
set_option linter.unusedSimpArgs false
def encM (x : Msg) : List Value := [.int .i64 x.1, .string x.2]
def flat (l : List Msg) : List Value := l.flatMap encM
theorem flat_len (l : List Msg) : (flat l).length = l.length * 2 := by
  induction l with
  | nil => rfl
  | cons x l ih => simp only [flat, List.flatMap_cons, List.length_append, List.length_cons] at *; rw [ih]; simp [encM]; omega
theorem flat_append (a b : List Msg) : flat (a ++ b) = flat a ++ flat b := by simp [flat]
theorem flat_drop (l : List Msg) (m : Nat) : (flat l).drop (m * 2) = flat (l.drop m) := by
  induction l generalizing m with
  | nil => simp [flat]
  | cons x l ih =>
    cases m with
    | zero => simp
    | succ m =>
      rw [List.drop_succ_cons, ← ih m, show (m + 1) * 2 = m * 2 + 2 by omega]
      simp [flat, encM]
theorem reps_flat {R : Msg → List Value → Prop} (hR : ∀ x cs, R x cs → cs = encM x) {xs : List Msg} {inner : List Value} (h : Reps R 2 xs inner) : inner = flat xs := by
  induction xs generalizing inner with
  | nil => exact List.eq_nil_of_length_eq_zero (by simpa using h.1)
  | cons x xs ih =>
    have h0 := hR _ _ (h.2 0 x rfl)
    simp only [Nat.zero_mul, List.drop_zero] at h0
    have h1 : Reps R 2 xs (inner.drop 2) := ⟨by rw [List.length_drop, h.1, List.length_cons]; omega, fun j p hj => by
      have := h.2 (j + 1) p (by simpa using hj)
      rwa [show (j + 1) * 2 = 2 + j * 2 by omega, ← List.drop_drop] at this⟩
    rw [← List.take_append_drop 2 inner, h0, ih h1]
    rfl
theorem flat_reps {R : Msg → List Value → Prop} (hR : ∀ x, R x (encM x)) (xs : List Msg) : Reps R 2 xs (flat xs) := by
  refine ⟨flat_len xs, fun j p hj => ?_⟩
  rw [flat_drop]
  obtain ⟨hj2, e⟩ := List.getElem?_eq_some_iff.1 hj
  subst e
  rw [List.drop_eq_getElem_cons hj2]
  exact hR _
theorem R_iff {e : Nat} {w : World} {base : Nat} {ok : Nat → Prop} {v : Value} {xs : List Msg} : Kd.R kM e w base ok v xs ↔ (∀ k, v.ownBlock = some k → ok k) ∧ w.ownsRow base e 2 v xs.length (flat xs) := by
  constructor
  · rintro ⟨h1, inner, h2, h3⟩
    obtain rfl := reps_flat (fun x cs h => kM_K (kM.K_of_M h)) h3
    exact ⟨h1, h2⟩
  · rintro ⟨h1, h2⟩
    exact ⟨h1, _, h2, flat_reps (fun x => kM_M (kM_mk w x)) xs⟩
theorem flat_one (l : List Msg) : ∀ u ∈ flat l, u.oneCell' = true := by
  intro u hu
  obtain ⟨x, _, hx⟩ := List.mem_flatMap.1 hu
  simp only [encM, List.mem_cons, List.not_mem_nil, or_false] at hx
  rcases hx with rfl | rfl <;> rfl
section
variable {P : Program} {ops : Array Oper} {rest : List Oper} {o : Oper} {a : Act} {Q : Exit → Act → World → Prop}
theorem run_copy_sz (w : World) (dT sT ty elem : TypeId) (b o dLen dCap : Nat) (a : Addr) (sLen sCap sz : Nat) (cs : List Value)
    (hu : P.underlying dT = some (.slice elem)) (hs : (P.info? elem).map (·.size) = some sz) (hn : cs.length = Nat.min sLen dLen * sz)
    (hsrc : ∀ j v, cs[j]? = some v → w.cell? (a.add j) = some v) (hc : ∀ j, j < cs.length → (w.cell? ⟨b, o + j, none⟩).isSome = true) (hf : ∀ j, j < cs.length → w.frozen? ⟨b, o + j, none⟩ = false) (h1 : ∀ v ∈ cs, v.oneCell' = true) :
    (Builtin.copy_ #[dT, sT] ty #[.slice (some ⟨b, o, none⟩) dLen dCap, .slice (some a) sLen sCap]).run P w = .ok (goInt (Nat.min sLen dLen)) (w.setCells b o cs) := by
  have hl := run_loadCells_list (P := P) w a cs hsrc
  have hst := run_storeCells_cells (P := P) b o cs 0 w (by simpa using hc) (by simpa using hf) h1
  cases hq : P.info? elem with
  | none => simp [hq] at hs
  | some i =>
    have hi : i.size = sz := by simpa [hq] using hs
    simp [Builtin.copy_, run_underlying hu, Builtin.lenOf, Builtin.firstCells, sizeOf, typeInfo, hq, hi, ← hn, hl, hst]
/-- copy(v, ys): the row of one's own begins with ys then. -/
theorem copy_arm {W : World} (base : Nat) (hgd : o.guard = none) (s x : Operand) (t t' e : TypeId)
    (ho : o.op = .call { callee := .builtin .copy, args := #[s, x], argTypes := #[t, t'] }) (ht : P.underlying t = some (.slice e)) (hinfo : (P.info? e).map (·.size) = some 2)
    (v : Value) (xs ys : List Msg) (A : Option Addr) (m c : Nat) (ok : Nat → Prop) (hs : a.eval s = v) (hx : a.eval x = .slice A m c)
    (HO : Kd.R kM e W base ok v xs) (HR : Kd.C kM W A m ys) (hm : m ≤ xs.length) (hp : 0 < xs.length)
    (h : ∀ w1, Kd.R kM e w1 base ok v (ys ++ xs.drop m) → W.grownBy w1 v.ownBlock → wpList P ops Q rest (a.put o.dst (.int .i64 (m : Int))) w1) :
    wpList P ops Q (o :: rest) a W := by
  obtain ⟨hok, hown⟩ := R_iff.1 HO
  have hmy : ys.length = m := HR.1
  rcases hown.2 with ⟨_, hx0⟩ | ⟨g, cap, cur, hv, hb, hh, hnc, hcm, hcs, htake⟩
  · omega
  have fin : ∀ w1, (Builtin.copy_ #[t, t'] o.type #[v, .slice A m c]).run P W = .ok (goInt (m : Nat)) w1 → Kd.R kM e w1 base ok v (ys ++ xs.drop m) → W.grownBy w1 v.ownBlock → wpList P ops Q (o :: rest) a W := by
    intro w1 hr hrow hg
    refine wpList_plain hgd fun K hK => ?_
    unfold Oper.wp execOp
    simp only [ho, resolve, invoke, builtin, Sem.run_bind, Sem.run_pure, Result.andThen_ok, List.map_toArray, List.map_cons, List.map_nil, hs, hx, hr]
    exact hK _ _ (h w1 hrow hg)
  have hmin : Nat.min m xs.length = m := Nat.min_eq_left hm
  cases A with
  | none =>
    have h0 : m = 0 := by
      rcases Nat.eq_zero_or_pos m with h0 | h0
      · exact h0
      · obtain ⟨ad, h, _⟩ := HR.2.2 h0
        cases h
    subst h0
    obtain rfl : ys = [] := List.eq_nil_of_length_eq_zero hmy
    refine fin W ?_ (by rw [List.nil_append, List.drop_zero]; exact HO) (World.grownBy.refl W _)
    obtain ⟨i, hi, hsz⟩ := Option.map_eq_some_iff.1 hinfo
    rw [hv]
    simp [Builtin.copy_, run_underlying ht, Builtin.lenOf, Builtin.firstCells, sizeOf, typeInfo, hi, hsz, storeCells]
  | some ad =>
    obtain ⟨news, hnr, hnc2⟩ := ReadsRow.inner_ HR
    obtain rfl := reps_flat (fun x cs h => kM_K h) hnr
    have hfl := flat_len ys
    have hr := run_copy_sz (P := P) W t t' o.type e g 0 xs.length cap ad m c 2 (flat ys) ht hinfo (by rw [hmin, hfl, hmy]) hnc2
      (fun j hj => by rw [cell_of_row W g _ cur e (0, 0) hh]; simp; omega) (fun j _ => blk_frozen hh _) (flat_one ys)
    obtain ⟨cur', h3, h4, h5⟩ := setCells_row (flat ys) 0 W cur hh (by omega)
    obtain ⟨s1, s2, s3, s4⟩ := setCells_same g (flat ys) 0 W
    rw [hmin] at hr
    refine fin _ (by rw [hv, hr]) (R_iff.2 ⟨hok, ?_⟩) ⟨s1, s2, s3, by rw [s4]; exact Nat.le_refl _, fun k _ hk => setCells_far _ _ k (fun he => hk (by rw [hv, he]; simp [Value.ownBlock]))⟩
    have hln : (ys ++ xs.drop m).length = xs.length := by rw [List.length_append, List.length_drop]; omega
    rw [hln]
    refine ⟨by rw [flat_len, hln], .inr ⟨g, cap, cur', hv, hb, h3, hnc, hcm, by rw [h4, hcs], ?_⟩⟩
    rw [h5, List.take_zero, List.nil_append, Nat.zero_add, flat_append, List.take_append, List.take_of_length_le (by omega)]
    congr 1
    rw [hfl, hmy, ← flat_drop, ← htake, List.drop_take]
end
end Go.Proofs.Ytclhddldbfdfdaa.PoW
namespace Go.Proofs.Ytclhddldbfdfdaa.PoW
open Go.RowKit Go.Proofs.YtclhddldbfdfdaaW.PrintWords Go.Proofs.YtclhddldbfdfdaaW.PrintMore Go.Proofs.YtclhddldbfdfdaaW.PrintLast
attribute [local go_sem] max2_int min2_int max_two min_two
set_option linter.unusedVariables false
set_option linter.unusedSimpArgs false
section
variable {W : World} {base : Nat} {ok : Nat → Prop} {g room : Nat} {l : List Msg} {v : Value} {fr : Nat} {dr : Int} {buf : List Msg}
def GrowPost (W : World) (base : Nat) (ok : Nat → Prop) (g room : Nat) (l : List Msg) (dr : Int) (e : Ending) (W' : World) : Prop := e = .returned (.tuple #[]) ∧ ∃ v' buf', QIn W' base ok g room l v' 0 dr buf' ∧ l.length < buf'.length ∧ Mod W W' (fun k => k = g)
set_option maxHeartbeats 4000000 in
set_option maxRecDepth 100000 in
theorem QIn.grow (h : QIn W base ok g room l v fr dr buf) (hfull : l.length = buf.length) (hroom : buf.length < room) (hfresh : ∀ k, W.heap.size ≤ k → ok k) (hbase : base ≤ W.heap.size) : Calls Try.prog 39 #[.pointer (some ⟨g, 0, none⟩)] W (GrowPost W base ok g room l dr) := by
  have HQ := Aside0.mk h
  obtain ⟨B, cv, rfl⟩ := Kd.R_slice h.row
  have q0 : W.cell? ⟨g, 0, none⟩ = some (.int .i64 (room : Int)) := blk_cell h.box 0
  have q1 : W.cell? ⟨g, 1, none⟩ = some (.slice B buf.length cv) := blk_cell h.box 1
  have r64 := h.room1
  have hgl := h.lt
  have e1 : wrap64 (2 * (buf.length : Int)) = 2 * (buf.length : Int) := by unfold wrap64; omega
  have hc1 := h.ring.fits
  obtain ⟨m, hm, hm1, hm2⟩ : ∃ m : Nat, (if (if 4 < 2 * (buf.length : Int) then 2 * (buf.length : Int) else 4) < (room : Int) then (if 4 < 2 * (buf.length : Int) then 2 * (buf.length : Int) else 4) else (room : Int)) = (m : Int) ∧ buf.length < m ∧ m ≤ room := by
    refine ⟨Int.toNat (if (if 4 < 2 * (buf.length : Int) then 2 * (buf.length : Int) else 4) < (room : Int) then (if 4 < 2 * (buf.length : Int) then 2 * (buf.length : Int) else 4) else (room : Int)), ?_, ?_, ?_⟩ <;> split <;> split at * <;> omega
  have HI := Aside0.mk (fun (W1 : World) (hb : Below W.heap.size W W1) => QIn.items (h.move (W' := W1) (ok' := ok) (fun k _ hk => hb.block k hk) (fun _ h _ => h)))
  clear h
  go_enter Try.func39, Try.ntmps39
  go_wp2
  refine start_ (n := 14) (S := fun w' => w'.cell? ⟨g, 0, none⟩ = some (.int .i64 (room : Int)) ∧ w'.cell? ⟨g, 1, none⟩ = some (.slice B buf.length cv)) (ds := [12]) #[false, false, false, false, false, false, false, false, false, false, false, false, false, false] (by kernel_rfl) rfl rfl ⟨q0, q1⟩ (fun hHeld => ?_)
  refine pure_ (i := 0) (N := some 3) (v := ?_) (a' := ?_) #[true, false, false, false, false, false, false, false, false, false, false, false, false, false] rfl rfl (by kernel_rfl) (fun _ _ _ h => h) (Or.inl ⟨by rfl, ?_⟩) ?_ ?_
  rotate_left
  · intro w'
    go_simp
    with_reducible rfl
  rotate_left
  · simp only [Act.put, List.setIfInBounds_toArray, List.set_cons_zero, List.set_cons_succ, i64_w, i32_w]
    rfl
  refine pure_ (i := 1) (N := some 4) (v := ?_) (a' := ?_) #[true, true, false, false, false, false, false, false, false, false, false, false, false, false] rfl rfl (by kernel_rfl) (fun _ _ _ h => h) (Or.inl ⟨by rfl, ?_⟩) ?_ ?_
  rotate_left
  · intro w'
    go_simp
    with_reducible rfl
  rotate_left
  · simp only [Act.put, List.setIfInBounds_toArray, List.set_cons_zero, List.set_cons_succ, i64_w, i32_w]
    rfl
  refine pure_ (i := 2) (N := some 5) (v := ?_) (a' := ?_) #[true, true, true, false, false, false, false, false, false, false, false, false, false, false] rfl rfl (by kernel_rfl) (fun _ _ _ h => h) (Or.inl ⟨by rfl, ?_⟩) ?_ ?_
  rotate_left
  · intro w'
    go_simp
    with_reducible rfl
  rotate_left
  · simp only [Act.put, List.setIfInBounds_toArray, List.set_cons_zero, List.set_cons_succ, i64_w, i32_w]
    rfl
  refine pure_ (i := 4) (N := some 7) (v := ?_) (a' := ?_) #[true, true, true, false, true, false, false, false, false, false, false, false, false, false] rfl rfl (by kernel_rfl) (fun _ _ _ h => h) (Or.inl ⟨by rfl, ?_⟩) ?_ ?_
  rotate_left
  · intro w'
    go_simp
    with_reducible rfl
  rotate_left
  · simp only [Act.put, List.setIfInBounds_toArray, List.set_cons_zero, List.set_cons_succ, i64_w, i32_w]
    rfl
  refine pure_ (i := 5) (N := some 8) (v := ?_) (a' := ?_) #[true, true, true, false, true, true, false, false, false, false, false, false, false, false] rfl rfl (by kernel_rfl) (fun _ _ _ h => h) (Or.inl ⟨by rfl, ?_⟩) ?_ ?_
  rotate_left
  · intro w'
    go_simp
    with_reducible rfl
  rotate_left
  · simp only [Act.put, List.setIfInBounds_toArray, List.set_cons_zero, List.set_cons_succ, i64_w, i32_w]
    rfl
  refine pure_ (i := 6) (N := some 9) (v := ?_) (a' := ?_) #[true, true, true, false, true, true, true, false, false, false, false, false, false, false] rfl rfl (by kernel_rfl) (fun _ _ _ h => h) (Or.inl ⟨by rfl, ?_⟩) ?_ ?_
  rotate_left
  · intro w'
    go_simp
    with_reducible rfl
  rotate_left
  · simp only [Act.put, List.setIfInBounds_toArray, List.set_cons_zero, List.set_cons_succ, i64_w, i32_w]
    rfl
  refine take_ (i := 3) (N := some 6) (v := ?_) (a' := ?_) #[true, true, true, true, true, true, true, false, false, false, false, false, false, false] rfl rfl (by kernel_rfl) (fun _ _ _ h => h) (Or.inl ⟨by rfl, ?_⟩) hHeld ?_ ?_
  rotate_left
  · rintro w' ⟨s0, s1⟩
    go_simp
    with_reducible rfl
  rotate_left
  · simp only [Act.put, List.setIfInBounds_toArray, List.set_cons_zero, List.set_cons_succ, i64_w, i32_w]
    rfl
  refine take_ (i := 7) (N := some 10) (v := ?_) (a' := ?_) #[true, true, true, true, true, true, true, true, false, false, false, false, false, false] rfl rfl (by kernel_rfl) (fun _ _ _ h => h) (Or.inl ⟨by rfl, ?_⟩) hHeld ?_ ?_
  rotate_left
  · rintro w' ⟨s0, s1⟩
    go_simp
    with_reducible rfl
  rotate_left
  · simp only [Act.put, List.setIfInBounds_toArray, List.set_cons_zero, List.set_cons_succ, i64_w, i32_w]
    rfl
  refine pure_ (i := 8) (N := some 11) (v := ?_) (a' := ?_) #[true, true, true, true, true, true, true, true, true, false, false, false, false, false] rfl rfl (by kernel_rfl) (fun _ _ _ h => h) (Or.inl ⟨by rfl, ?_⟩) ?_ ?_
  rotate_left
  · intro w'
    go_simp
    with_reducible rfl
  rotate_left
  · simp only [Act.put, List.setIfInBounds_toArray, List.set_cons_zero, List.set_cons_succ, i64_w, i32_w]
    rfl
  refine pure_ (i := 9) (N := some 12) (v := ?_) (a' := ?_) #[true, true, true, true, true, true, true, true, true, true, false, false, false, false] rfl rfl (by kernel_rfl) (fun _ _ _ h => h) (Or.inl ⟨by rfl, ?_⟩) ?_ ?_
  rotate_left
  · intro w'
    go_simp
    with_reducible rfl
  rotate_left
  · simp only [Act.put, List.setIfInBounds_toArray, List.set_cons_zero, List.set_cons_succ, i64_w, i32_w]
    rfl
  refine pure_ (i := 10) (N := some 13) (v := ?_) (a' := ?_) #[true, true, true, true, true, true, true, true, true, true, true, false, false, false] rfl rfl (by kernel_rfl) (fun _ _ _ h => h) (Or.inl ⟨by rfl, ?_⟩) ?_ ?_
  rotate_left
  · intro w'
    go_simp
    with_reducible rfl
  rotate_left
  · simp only [Act.put, List.setIfInBounds_toArray, List.set_cons_zero, List.set_cons_succ, i64_w, i32_w]
    rfl
  refine pure_ (i := 11) (N := some 14) (v := ?_) (a' := ?_) #[true, true, true, true, true, true, true, true, true, true, true, true, false, false] rfl rfl (by kernel_rfl) (fun _ _ _ h => h) (Or.inl ⟨by rfl, ?_⟩) ?_ ?_
  rotate_left
  · intro w'
    go_simp
    with_reducible rfl
  rotate_left
  · simp only [Act.put, List.setIfInBounds_toArray, List.set_cons_zero, List.set_cons_succ, i64_w, i32_w]
    rfl
  refine last_ (i := 12) (N := some 15) #[true, true, true, true, true, true, true, true, true, true, true, true, true, false] rfl rfl (by kernel_rfl) (by decide) (fun K hK => ?_)
  refine Kd.R_make_step kM (w0 := W) W.heap.size 37 (by rfl) (N := 15) rfl 83 (.tmp 14) (.tmp 14) rfl (m : Int) (by rw [← hm]; rfl) (by rw [← hm]; rfl) Try.underlying83 (.agg #[.int .i64 0, .string ⟨#[]⟩]) 24 infoM (by rfl) (by decide) (by decide) z (ok := fun k => W.heap.size ≤ k) (okp := fun _ => False) (kM_M (kM_mk _ z)) (fun _ h => h.elim) (Nat.le_refl _) (by omega) (by omega) (below_drew (Below.refl _ _)) (Nat.le_refl _) ?_
  intro v1 w1 hR1 hB1 hg1 hb1
  have HR1 := Aside0.mk hR1
  have HB1 := Aside0.mk hB1
  clear hR1 hB1 hg1 hb1
  refine hK.out _ _ ?_
  clear hK K
  refine norm_ (a' := ?_) ?_ ?_
  rotate_left
  · show Act.put _ (some 15) _ = _
    simp only [Act.put, List.setIfInBounds_toArray, List.set_cons_zero, List.set_cons_succ, i64_w, i32_w]
    rfl
  refine pure_ (i := 13) (N := some 2) (v := ?_) (a' := ?_) #[true, true, true, true, true, true, true, true, true, true, true, true, true, true] rfl rfl (by kernel_rfl) (fun _ _ _ h => h) (Or.inl ⟨by rfl, ?_⟩) ?_ ?_
  rotate_left
  · intro w'
    go_simp
    with_reducible rfl
  rotate_left
  · simp only [Act.put, List.setIfInBounds_toArray, List.set_cons_zero, List.set_cons_succ, i64_w, i32_w]
    rfl
  refine done_ (by kernel_rfl) ?_

  obtain ⟨A1, c1, rfl⟩ := Kd.R_slice HR1.out
  have HI1 := Aside0.mk (HI.out w1 HB1.out)
  clear HI
  simp only [Int.toNat_natCast, List.length_replicate] at HR1
  have HF := Aside0.mk hfull
  have HM := Aside0.mk (And.intro hm1 hm2)
  have hlm : l.length ≤ m := by omega
  generalize (if 4 < 2 * (buf.length : Int) then 2 * (buf.length : Int) else 4) = q4 at *
  clear hfull hm e1
  go_wp2_with (first
    | (go_at_call 44; refine HI1.out.mono ?_; rintro e w2 ⟨u2, rfl, hR2, hb2⟩; obtain ⟨A2, c2, e2⟩ := Kd.R_slice hR2; subst e2; have HR2 := Aside0.mk hR2; have HB2 := Aside0.mk hb2; clear hR2 hb2)
    | ((with_reducible refine gate_builtin (b := .copy) (xs := #[.tmp 16, .tmp 18]) rfl ?_); refine copy_arm (W := w2) W.heap.size rfl (.tmp 16) (.tmp 18) 83 83 37 rfl Try.underlying83 (by kernel_rfl) (.slice A1 m c1) (List.replicate m z) l A2 l.length c2 (fun k => W.heap.size ≤ k) rfl rfl (Kd.R_below HR1.out HB2.out) (Kd.R_reads' HR2.out).2.2 (by rw [List.length_replicate]; exact hlm) (by rw [List.length_replicate]; have := HM.out; omega) ?_; intro w3 hR3 hg3; have HR3 := Aside0.mk hR3; have HG3 := Aside0.mk hg3; have HX3 := Aside0.mk (show w3.heap[g]? = some (.cells #[.int .i64 (room : Int), .slice B buf.length cv, .int .i64 (fr : Int), .int .i64 (l.length : Int), .int .i64 dr] 85 (0, 0)) from (hg3.block g (Nat.lt_of_lt_of_le (Nat.lt_of_lt_of_le hgl HB1.out.size) HB2.out.size) (fun e => by have := Kd.R_base HR1.out g e.symm; omega)).trans (((HB2.out.block g (Nat.lt_of_lt_of_le hgl HB1.out.size)).trans (HB1.out.block g hgl)).trans HQ.out.box)); have y1 : w3.cell? ⟨g, 1, none⟩ = some (.slice B buf.length cv) := blk_cell HX3.out 1; have y2 : w3.cell? ⟨g, 2, none⟩ = some (.int .i64 (fr : Int)) := blk_cell HX3.out 2; have z1 : w3.frozen? ⟨g, 1, none⟩ = false := blk_frozen HX3.out 1; have z2 : w3.frozen? ⟨g, 2, none⟩ = false := blk_frozen HX3.out 2; clear hR3 hg3))
  go_end0
  have hb3 := blk_set (blk_set HX3.out 1 (.slice A1 m c1)) 2 (.int .i64 0)
  have hR3 := HR3.out
  rw [List.drop_replicate] at hR3
  have hbel : Below W.heap.size W w2 := below_step HB1.out HB2.out
  refine ⟨rfl, .slice A1 m c1, l ++ List.replicate (m - l.length) z, ⟨hb3, ?_, Ring.grow hlm, ?_, HQ.out.dr0, HQ.out.dr1, HQ.out.okg, HQ.out.room0, HQ.out.room1⟩, ?_, ?_⟩
  · refine Kd.R_far (Kd.R_far (Kd.R_mono (Kd.R_lower hR3 hbase) (ok' := fun k => ok k ∧ k ≠ g) (fun k hk => ⟨hfresh k hk, by omega⟩)) (fun k hk => hk.2) _) (fun k hk => hk.2) _
  · have := HM.out; simp; omega
  · have := HM.out; have := HF.out; simp; omega
  · refine (((Mod.of_below hbel (fun k => k = g)).grown HG3.out (fun k hk => .inr (Kd.R_base HR1.out k hk))).set _ _ (.inl rfl)).set _ _ (.inl rfl)
end
end Go.Proofs.Ytclhddldbfdfdaa.PoW
