/- The law's memory: bytes behind a pointer, counts of loads and stores. -/
import Derived.Test.YtbdamgopggeikaaVmF
import Derived.Test.YtbdamgopggeikaaAppendHat
import Derived.Test.YtbdamgopggeikaaHandBase
namespace Go.Proofs.Ytbdamgopggeikaa.VmW
open Go.RowKit Go.Proofs.YtbdamgopggeikaaW.PrintWords Go.Proofs.YtbdamgopggeikaaW.PrintMore Go.Proofs.YtbdamgopggeikaaW.PrintLast Go.Proofs.Ytbdamgopggeikaa.Pvm
set_option linter.unusedVariables false
set_option linter.unusedSimpArgs false
theorem infoB : (Try.prog.info? 5).map (fun i => (i.zero, i.size, i.bytes)) = some (some (.int .u8 0), 1, 1) := by kernel_rfl
/-- What has been turned: blocks of S, and new ones. -/
structure Mv (W W' : World) (S : Nat → Prop) : Prop where
  os : W'.os = W.os
  tape : W'.tape = W.tape
  output : W'.output = W.output
  size : W.heap.size ≤ W'.heap.size
  block : ∀ k, k < W.heap.size → ¬ S k → W'.heap[k]? = W.heap[k]?
theorem Mv.refl (W : World) (S : Nat → Prop) : Mv W W S := ⟨rfl, rfl, rfl, Nat.le_refl _, fun _ _ _ => rfl⟩
theorem Mv.trans {W W1 W2 : World} {S S1 : Nat → Prop} (h : Mv W W1 S) (k : Mv W1 W2 S1) (hs : ∀ k, S1 k → S k ∨ W.heap.size ≤ k) : Mv W W2 S :=
  ⟨k.os.trans h.os, k.tape.trans h.tape, k.output.trans h.output, Nat.le_trans h.size k.size, fun i hi hn => (k.block i (Nat.lt_of_lt_of_le hi h.size) (fun e => (hs i e).elim hn (fun hle => by omega))).trans (h.block i hi hn)⟩
theorem Mv.mono {W W' : World} {S S' : Nat → Prop} (h : Mv W W' S) (hs : ∀ k, S k → S' k ∨ W.heap.size ≤ k) : Mv W W' S' := (Mv.refl W S').trans h hs
theorem Mv.of_below {W W' : World} (h : Below W.heap.size W W') (S : Nat → Prop) : Mv W W' S := ⟨h.os, h.tape, h.output, h.size, fun i hi _ => h.block i hi⟩
theorem Mv.of_grown {W W' : World} {row : Option Nat} (h : W.grownBy W' row) {S : Nat → Prop} (hs : ∀ k, row = some k → S k ∨ W.heap.size ≤ k) : Mv W W' S :=
  ⟨h.os, h.tape, h.output, h.size, fun i hi hn => h.block i hi (fun e => (hs i e.symm).elim hn (fun hle => by omega))⟩
theorem Mv.below {W W' : World} {S : Nat → Prop} (h : Mv W W' S) (hs : ∀ k, S k → W.heap.size ≤ k) : Below W.heap.size W W' := ⟨h.os, h.tape, h.output, h.size, fun i hi => h.block i hi (fun e => by have := hs i e; omega)⟩
theorem Mv.set {W W' : World} {S : Nat → Prop} (h : Mv W W' S) {p : Addr} (hp : S p.block ∨ W.heap.size ≤ p.block) (u : Value) : Mv W (W'.setCell p u) S :=
  h.trans (S1 := fun k => k = p.block) ⟨rfl, rfl, rfl, by simp [World.setCell], fun k _ hn => Below.heap_setCell W' p u k hn⟩ (fun k e => by rw [e]; exact hp)
theorem Mv.alloc {W W' : World} {S : Nat → Prop} (h : Mv W W' S) (o : Obj) : Mv W (W'.alloc o) S := h.trans (Mv.of_below (below_alloc (Below.refl _ _) o) S) (fun _ e => .inl e)
theorem Mv.drew {W W' : World} {S : Nat → Prop} (h : Mv W W' S) : Mv W W'.drew S := ⟨h.os, h.tape, h.output, h.size, h.block⟩
theorem Mv.drewN {W W' : World} {S : Nat → Prop} (h : Mv W W' S) (n : Nat) : Mv W (W'.drewN n) S := ⟨h.os, h.tape, h.output, h.size, h.block⟩
theorem Mv.kept {W W' : World} {S : Nat → Prop} (h : Mv W W' S) : Kept W W' S := ⟨h.size, h.block⟩
theorem Mv.blk {W W' : World} {S : Nat → Prop} (h : Mv W W' S) {g : Nat} {o : Obj} (hb : W.heap[g]? = some o) (hn : ¬ S g) : W'.heap[g]? = some o := (h.block g (blk_lt hb) hn).trans hb
theorem Mv.own {W W' : World} {S : Nat → Prop} (h : Mv W W' S) {base e size n : Nat} {v : Value} {xs : List Value} (ho : W.ownsRow base e size v n xs) (hn : ∀ k, v.ownBlock = some k → ¬ S k) : W'.ownsRow base e size v n xs :=
  own_move ho (fun k hk => h.block k (own_lt ho k hk) (hn k hk))
theorem Mv.C {α : Type} {d : Kd α} (hd : ∀ {W W' : World} {x : α} {cs : List Value}, d.K W x cs → d.K W' x cs) {W W' : World} {S : Nat → Prop} (h : Mv W W' S) {A : Option Addr} {n : Nat} {xs : List α} (hC : d.C W A n xs) (hn : ∀ ad, A = some ad → 0 < n → ¬ S ad.block) : d.C W' A n xs := by
  refine ⟨hC.1, hC.2.1, fun hp => ?_⟩
  obtain ⟨ad, rfl, hc⟩ := hC.2.2 hp
  refine ⟨ad, rfl, fun j p hj => ?_⟩
  obtain ⟨c, hl, hk, hcell⟩ := hc j p hj
  refine ⟨c, hl, hd hk, fun i u hu => ?_⟩
  have h1 := hcell i u hu
  have hblk : (ad.add (j * d.sz + i)).block = ad.block := add_block _ _
  have h2 := World.block_lt_of_cell? W _ h1
  exact (World.cell?_of_block (h.block _ h2 (by rw [hblk]; exact hn ad rfl hp))).trans h1
structure Mem where
  b : List Int
  loads : Int
  stores : Int
def memK : MemK Mem :=
  ⟨fun m at_ => (⟨m.b, wrap64 (m.loads + 1), m.stores⟩, if 0 ≤ at_ ∧ at_ < m.b.length then (rd m.b at_, true) else (0, false)),
   fun m at_ x => if 0 ≤ at_ ∧ at_ < m.b.length then (⟨m.b.set at_.toNat x, m.loads, wrap64 (m.stores + 1)⟩, true) else (⟨m.b, m.loads, wrap64 (m.stores + 1)⟩, false)⟩
/-- The memory at block mb, its bytes' row v. -/
structure MemAt (W : World) (mb : Nat) (v : Value) (m : Mem) : Prop where
  box : W.heap[mb]? = some (.cells #[v, .int .i64 m.loads, .int .i64 m.stores] 43 (0, 0))
  row : W.ownsRow 0 5 1 v m.b.length (nums .u8 m.b)
  len : m.b.length ≤ 9223372036854775807
  byt : ∀ x ∈ m.b, 0 ≤ x ∧ x ≤ 255
theorem MemAt.mv {W W' : World} {mb : Nat} {v : Value} {m : Mem} (h : MemAt W mb v m) {S : Nat → Prop} (hm : Mv W W' S) (h1 : ¬ S mb) (h2 : ∀ k, v.ownBlock = some k → ¬ S k) : MemAt W' mb v m := ⟨hm.blk h.box h1, hm.own h.row h2, h.len, h.byt⟩
/-- A memory behind a pointer, as the machine knows it: its blocks are those of f. -/
def MemP (W : World) (p : Value) (f : Nat → Prop) (m : Mem) : Prop := ∃ mb v, p = .pointer (some ⟨mb, 0, none⟩) ∧ MemAt W mb v m ∧ ∀ k, f k ↔ k = mb ∨ v.ownBlock = some k
theorem MemP.mv {W W' : World} {p : Value} {f : Nat → Prop} {m : Mem} (h : MemP W p f m) {S : Nat → Prop} (hm : Mv W W' S) (hs : ∀ k, f k → ¬ S k) : MemP W' p f m := by
  obtain ⟨mb, v, e, ha, hf⟩ := h
  exact ⟨mb, v, e, ha.mv hm (hs _ ((hf _).2 (.inl rfl))) (fun k hk => hs k ((hf k).2 (.inr hk))), hf⟩
theorem MemP.lt {W : World} {p : Value} {f : Nat → Prop} {m : Mem} (h : MemP W p f m) : ∀ k, f k → k < W.heap.size := by
  obtain ⟨mb, v, e, ha, hf⟩ := h
  intro k hk
  rcases (hf k).1 hk with rfl | hk
  · exact blk_lt ha.box
  · exact own_lt ha.row k hk
theorem mem_own_ne {W : World} {mb : Nat} {v : Value} {m : Mem} (h : MemAt W mb v m) : some mb ≠ v.ownBlock := own_ne h.row h.box (by decide)
def LoadPost (W : World) (p : Value) (f : Nat → Prop) (m : Mem) (r : Mem × Int × Bool) (e : Ending) (W' : World) : Prop := ∃ f', e = .returned (.tuple #[.int .u8 r.2.1, .bool r.2.2]) ∧ MemP W' p f' r.1 ∧ Mv W W' f ∧ ∀ k, f' k → f k ∨ W.heap.size ≤ k
def StorePost (W : World) (p : Value) (f : Nat → Prop) (m : Mem) (r : Mem × Bool) (e : Ending) (W' : World) : Prop := ∃ f', e = .returned (.bool r.2) ∧ MemP W' p f' r.1 ∧ Mv W W' f ∧ ∀ k, f' k → f k ∨ W.heap.size ≤ k
theorem mem_counted {W : World} {mb : Nat} {v : Value} {m : Mem} (h : MemAt W mb v m) (x : Int) : MemAt (W.setCell ⟨mb, 1, none⟩ (.int .i64 x)) mb v ⟨m.b, x, m.stores⟩ ∧ MemAt (W.setCell ⟨mb, 2, none⟩ (.int .i64 x)) mb v ⟨m.b, m.loads, x⟩ :=
  ⟨⟨blk_set h.box 1 _, own_setCell h.row (mem_own_ne h) _, h.len, h.byt⟩, ⟨blk_set h.box 2 _, own_setCell h.row (mem_own_ne h) _, h.len, h.byt⟩⟩
set_option maxHeartbeats 4000000 in
set_option maxRecDepth 100000 in
theorem load_calls (W : World) (p : Value) (f : Nat → Prop) (m : Mem) (h : MemP W p f m) (at_ : Int) : Calls Try.prog 60 #[p, .int .i64 at_] W (LoadPost W p f m (memK.load m at_)) := by
  obtain ⟨mb, v, rfl, ha, hf⟩ := h
  have HA := Aside0.mk ha
  have HF := Aside0.mk hf
  have c0 := blk_cell ha.box 0
  have c1 := blk_cell ha.box 1
  have f1 := blk_frozen ha.box 1
  have hlen := ha.len
  obtain ⟨A, c, rfl⟩ := own_slice ha.row
  have HM := Aside0.mk (mem_own_ne ha)
  have hn0 : (0 : Int) ≤ (m.b.length : Int) := by omega
  have ha2 := (mem_counted ha (wrap64 (m.loads + 1))).1
  have HA2 := Aside0.mk ha2
  by_cases h0 : at_ < 0
  · have t0 : decide (at_ < 0) = true := decide_eq_true h0
    have HP := Aside0.mk (show memK.load m at_ = (⟨m.b, wrap64 (m.loads + 1), m.stores⟩, 0, false) from by unfold memK; dsimp only; rw [if_neg (by omega)])
    clear ha hf ha2 h0
    go_enter Try.func60, Try.ntmps60
    go_wp2
    go_ret2
    rw [HP.out]
    exact ⟨f, rfl, ⟨mb, _, rfl, HA2.out, HF.out⟩, (Mv.refl W f).set (.inl ((HF.out _).2 (.inl rfl))) _, fun k hk => .inl hk⟩
  · have t0 : decide (at_ < 0) = false := decide_eq_false h0
    by_cases h1 : at_ < (m.b.length : Int)
    · have t1 : decide (at_ ≥ (m.b.length : Int)) = false := decide_eq_false (by omega)
      have t2 : decide ((m.b.length : Int) ≤ at_) = false := decide_eq_false (by omega)
      have HP := Aside0.mk (show memK.load m at_ = (⟨m.b, wrap64 (m.loads + 1), m.stores⟩, rd m.b at_, true) from by unfold memK; dsimp only; rw [if_pos (by omega)])
      obtain ⟨g, cap, e1⟩ : ∃ g cap, Value.slice A m.b.length c = .slice (some ⟨g, 0, none⟩) m.b.length cap := by
        rcases ha.row.2 with ⟨_, hz⟩ | ⟨g, cap, cur, e, _⟩
        · omega
        · exact ⟨g, cap, e⟩
      injection e1 with e1 _ e2
      subst e1 e2
      have hc := (own_at ha.row at_ (by omega) h1).1
      have hgm : ¬ g = mb := fun e => HM.out (by rw [e]; rfl)
      have q1 : (g = mb) = False := eq_false hgm
      have q2 : (mb = g) = False := eq_false (fun e => hgm e.symm)
      have k0 : 0 ≤ at_ := by omega
      clear ha hf ha2 h0 hgm
      go_enter Try.func60, Try.ntmps60
      go_wp2
      go_ret2
      rw [HP.out]
      exact ⟨f, rfl, ⟨mb, _, rfl, HA2.out, HF.out⟩, (Mv.refl W f).set (.inl ((HF.out _).2 (.inl rfl))) _, fun k hk => .inl hk⟩
    · have t1 : decide (at_ ≥ (m.b.length : Int)) = true := decide_eq_true (by omega)
      have t2 : decide ((m.b.length : Int) ≤ at_) = true := decide_eq_true (by omega)
      have HP := Aside0.mk (show memK.load m at_ = (⟨m.b, wrap64 (m.loads + 1), m.stores⟩, 0, false) from by unfold memK; dsimp only; rw [if_neg (by omega)])
      clear ha hf ha2 h0 h1
      go_enter Try.func60, Try.ntmps60
      go_wp2
      go_ret2
      rw [HP.out]
      exact ⟨f, rfl, ⟨mb, _, rfl, HA2.out, HF.out⟩, (Mv.refl W f).set (.inl ((HF.out _).2 (.inl rfl))) _, fun k hk => .inl hk⟩
set_option maxHeartbeats 4000000 in
set_option maxRecDepth 100000 in
theorem store_calls (W : World) (p : Value) (f : Nat → Prop) (m : Mem) (h : MemP W p f m) (at_ x : Int) (hxr : 0 ≤ x ∧ x ≤ 255) : Calls Try.prog 61 #[p, .int .i64 at_, .int .u8 x] W (StorePost W p f m (memK.store m at_ x)) := by
  obtain ⟨mb, v, rfl, ha, hf⟩ := h
  have HA := Aside0.mk ha
  have HF := Aside0.mk hf
  have c0 := blk_cell ha.box 0
  have c1 := blk_cell ha.box 2
  have f1 := blk_frozen ha.box 2
  have hlen := ha.len
  obtain ⟨A, c, rfl⟩ := own_slice ha.row
  have HM := Aside0.mk (mem_own_ne ha)
  have hn0 : (0 : Int) ≤ (m.b.length : Int) := by omega
  have ha2 := (mem_counted ha (wrap64 (m.stores + 1))).2
  have HA2 := Aside0.mk ha2
  by_cases h0 : at_ < 0
  · have t0 : decide (at_ < 0) = true := decide_eq_true h0
    have HP := Aside0.mk (show memK.store m at_ x = (⟨m.b, m.loads, wrap64 (m.stores + 1)⟩, false) from by unfold memK; dsimp only; rw [if_neg (by omega)])
    clear ha hf ha2 h0
    have HXR := Aside0.mk hxr
    clear hxr
    go_enter Try.func61, Try.ntmps61
    go_wp2
    go_ret
    rw [HP.out]
    exact ⟨f, rfl, ⟨mb, _, rfl, HA2.out, HF.out⟩, (Mv.refl W f).set (.inl ((HF.out _).2 (.inl rfl))) _, fun k hk => .inl hk⟩
  · have t0 : decide (at_ < 0) = false := decide_eq_false h0
    by_cases h1 : at_ < (m.b.length : Int)
    · have t1 : decide (at_ ≥ (m.b.length : Int)) = false := decide_eq_false (by omega)
      have t2 : decide ((m.b.length : Int) ≤ at_) = false := decide_eq_false (by omega)
      have HP := Aside0.mk (show memK.store m at_ x = (⟨m.b.set at_.toNat x, m.loads, wrap64 (m.stores + 1)⟩, true) from by unfold memK; dsimp only; rw [if_pos (by omega)])
      obtain ⟨g, cap, e1⟩ : ∃ g cap, Value.slice A m.b.length c = .slice (some ⟨g, 0, none⟩) m.b.length cap := by
        rcases ha.row.2 with ⟨_, hz⟩ | ⟨g, cap, cur, e, _⟩
        · omega
        · exact ⟨g, cap, e⟩
      injection e1 with e1 _ e2
      subst e1 e2
      have hc := own_at ha.row at_ (by omega) h1
      obtain ⟨hc, hfz⟩ := hc
      have hgm : ¬ g = mb := fun e => HM.out (by rw [e]; rfl)
      have HG := Aside0.mk hgm
      have q1 : (g = mb) = False := eq_false hgm
      have q2 : (mb = g) = False := eq_false (fun e => hgm e.symm)
      have k0 : 0 ≤ at_ := by omega
      clear ha hf ha2 h0 hgm
      have HXR := Aside0.mk hxr
      clear hxr
      go_enter Try.func61, Try.ntmps61
      go_wp2
      go_ret
      rw [HP.out]
      refine ⟨f, rfl, ⟨mb, _, rfl, ⟨blk_far HA2.out.box (p := ⟨g, at_.toNat, none⟩) (fun e => HG.out e.symm) _, own_put HA2.out.row at_ x, by simpa using HA2.out.len, fun y hy => (List.mem_or_eq_of_mem_set hy).elim (HA.out.byt y) (fun e => e ▸ HXR.out)⟩, HF.out⟩, Mv.set (p := ⟨g, at_.toNat, none⟩) ((Mv.refl W f).set (p := ⟨mb, 2, none⟩) (.inl ((HF.out _).2 (.inl rfl))) _) (.inl ((HF.out _).2 (.inr rfl))) _, fun k hk => .inl hk⟩
    · have t1 : decide (at_ ≥ (m.b.length : Int)) = true := decide_eq_true (by omega)
      have t2 : decide ((m.b.length : Int) ≤ at_) = true := decide_eq_true (by omega)
      have HP := Aside0.mk (show memK.store m at_ x = (⟨m.b, m.loads, wrap64 (m.stores + 1)⟩, false) from by unfold memK; dsimp only; rw [if_neg (by omega)])
      clear ha hf ha2 h0 h1
      have HXR := Aside0.mk hxr
      clear hxr
      go_enter Try.func61, Try.ntmps61
      go_wp2
      go_ret
      rw [HP.out]
      exact ⟨f, rfl, ⟨mb, _, rfl, HA2.out, HF.out⟩, (Mv.refl W f).set (.inl ((HF.out _).2 (.inl rfl))) _, fun k hk => .inl hk⟩
def FilledPost (w : World) (s : ByteArray) (e : Ending) (w' : World) : Prop := ∃ v, e = .returned (.pointer (some ⟨w.heap.size, 0, none⟩)) ∧ MemAt w' w.heap.size v ⟨bytesOf s, 0, 0⟩ ∧ Below w.heap.size w w' ∧ (∀ k, v.ownBlock = some k → w.heap.size ≤ k)
set_option maxHeartbeats 4000000 in
set_option maxRecDepth 100000 in
theorem filled_calls (s : ByteArray) (w : World) (hs : s.size ≤ 140737488355328) : Calls Try.prog 11 #[.string s] w (FilledPost w s) := by
  have hnil : (w.alloc (.cells #[.slice none 0 0, .int .i64 0, .int .i64 0] 43)).ownsRow w.heap.size 5 1 (.slice none 0 0) ([] : List Int).length (nums .u8 []) := own_nil _ _ _ _
  have hbel : Below w.heap.size w (w.alloc (.cells #[.slice none 0 0, .int .i64 0, .int .i64 0] 43)) := below_alloc (Below.refl _ _) _
  have hbx := heap_alloc_new w (.cells #[.slice none 0 0, .int .i64 0, .int .i64 0] 43)
  have HN := Aside0.mk hnil
  have HB := Aside0.mk hbel
  have HX := Aside0.mk hbx
  have HS := Aside0.mk hs
  clear hnil hbel hbx hs
  go_enter Try.func11, Try.ntmps11
  go_wp2_with (at_builtin; refine Hat.append_str w.heap.size rfl _ _ 37 9 5 rfl Try.underlying37 Try.underlying9 infoB (.slice none 0 0) [] s rfl rfl HN.out HB.out (by simp) (by simpa using HS.out) ?_; intro v1 w1 ho hb hg hat; have hx1 := blk_grown HX.out hg (by simp [Value.ownBlock]); have r1 := blk_cell hx1 0; have r2 := blk_frozen hx1 0; obtain ⟨A1, c1, e1⟩ := own_slice ho; subst e1; have HO := Aside0.mk ho; have HB1 := Aside0.mk hb; have HX1 := Aside0.mk hx1; clear ho hb hg hat hx1)
  go_ret
  have ho := HO.out
  rw [List.nil_append] at ho
  have hne := own_ne ho HX1.out (by decide)
  refine ⟨_, rfl, ⟨blk_set HX1.out 0 _, own_weaken (own_setCell ho hne _) (Nat.zero_le _), ?_, ?_⟩, HB1.out.setCell (by exact Nat.le_refl _) _, fun k hk => own_base ho k hk⟩
  · rw [bytesOf_length]
    have := HS.out
    omega
  · intro x hx
    unfold bytesOf at hx
    obtain ⟨b, _, rfl⟩ := List.mem_map.1 hx
    have := b.toNat_lt
    omega
theorem MemP.ptr {W : World} {p : Value} {f : Nat → Prop} {m : Mem} (h : MemP W p f m) : ∃ ad, p = .pointer (some ad) := by
  obtain ⟨mb, v, e, _⟩ := h
  exact ⟨_, e⟩
theorem MemP.range {W : World} {p : Value} {f : Nat → Prop} {m m' : Mem} {x y : Int} {ok : Bool} (h : MemP W p f m) (hr : memK.load m x = (m', y, ok)) : 0 ≤ y ∧ y ≤ 255 := by
  obtain ⟨mb, v, e, ha, _⟩ := h
  unfold memK at hr
  dsimp only at hr
  injection hr with _ hr
  by_cases hin : 0 ≤ x ∧ x < m.b.length
  · rw [if_pos hin] at hr
    injection hr with hr _
    rw [← hr]
    refine ha.byt _ ?_
    unfold rd
    rw [List.getD_eq_getElem?_getD, List.getElem?_eq_getElem (show x.toNat < m.b.length by omega)]
    exact List.getElem_mem _
  · rw [if_neg hin] at hr
    injection hr with hr _
    omega
theorem method_load (ad : Addr) (w : World) : (Go.method (Try.prog.types.size + Made.depth) 29 (.pointer (some ad)) "Load").run Try.prog w = .ok (60, .pointer (some ad)) w := by kernel_rfl
theorem method_store (ad : Addr) (w : World) : (Go.method (Try.prog.types.size + Made.depth) 29 (.pointer (some ad)) "Store").run Try.prog w = .ok (61, .pointer (some ad)) w := by kernel_rfl
end Go.Proofs.Ytbdamgopggeikaa.VmW
