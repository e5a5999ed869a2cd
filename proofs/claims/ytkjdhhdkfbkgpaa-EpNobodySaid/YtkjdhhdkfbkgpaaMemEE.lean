/- An event process' memory: an image, pages of one's own, all in the process' own block. An event process' memory: Store. -/
import Derived.Test.YtkjdhhdkfbkgpaaVmFS
import Derived.Test.YtkjdhhdkfbkgpaaAppendHat
import Derived.Test.YtkjdhhdkfbkgpaaHandBase
namespace Go.Proofs.Ytkjdhhdkfbkgpaa.VmW
open Go.RowKit Go.Proofs.YtkjdhhdkfbkgpaaW.PrintWords Go.Proofs.YtkjdhhdkfbkgpaaW.PrintMore Go.Proofs.YtkjdhhdkfbkgpaaW.PrintLast Go.Proofs.Ytkjdhhdkfbkgpaa.Pvm
set_option linter.unusedVariables false
set_option linter.unusedSimpArgs false
/-- What has been turned: blocks of S, and new ones. -/
structure Mv (W W' : World) (S : Nat → Prop) : Prop where
  os : W'.os = W.os
  tape : W'.tape = W.tape
  output : W'.output = W.output
  size : W.heap.size ≤ W'.heap.size
  block : ∀ k, k < W.heap.size → ¬ S k → W'.heap[k]? = W.heap[k]?
theorem Mv.refl (W : World) (S : Nat → Prop) : Mv W W S := ⟨rfl, rfl, rfl, Nat.le_refl _, fun _ _ _ => rfl⟩
theorem Mv.trans {W W1 W2 : World} {S S1 : Nat → Prop} (h : Mv W W1 S) (k : Mv W1 W2 S1) (hs : ∀ k, S1 k → S k ∨ W.heap.size ≤ k) : Mv W W2 S :=
  ⟨k.os.trans h.os, k.tape.trans h.tape, k.output.trans h.output, Nat.le_trans h.size k.size, fun i hi hn => (k.block i (Nat.lt_of_lt_of_le hi h.size) (fun e => (hs i e).elim hn (fun hle => by omega))).trans (h.block i hi hn)⟩
theorem Mv.mono {W W' : World} {S S' : Nat → Prop} (h : Mv W W' S) (hs : ∀ k, S k → S' k ∨ W.heap.size ≤ k) : Mv W W' S' := (Mv.refl W S').trans h hs
theorem Mv.of_below {W W' : World} (h : Below W.heap.size W W') (S : Nat → Prop) : Mv W W' S := ⟨h.os, h.tape, h.output, h.size, fun i hi _ => h.block i hi⟩
theorem Mv.of_grown {W W' : World} {row : Option Nat} (h : W.grownBy W' row) {S : Nat → Prop} (hs : ∀ k, row = some k → S k ∨ W.heap.size ≤ k) : Mv W W' S :=
  ⟨h.os, h.tape, h.output, h.size, fun i hi hn => h.block i hi (fun e => (hs i e.symm).elim hn (fun hle => by omega))⟩
theorem Mv.below {W W' : World} {S : Nat → Prop} (h : Mv W W' S) (hs : ∀ k, S k → W.heap.size ≤ k) : Below W.heap.size W W' := ⟨h.os, h.tape, h.output, h.size, fun i hi => h.block i hi (fun e => by have := hs i e; omega)⟩
theorem Mv.set {W W' : World} {S : Nat → Prop} (h : Mv W W' S) {p : Addr} (hp : S p.block ∨ W.heap.size ≤ p.block) (u : Value) : Mv W (W'.setCell p u) S :=
  h.trans (S1 := fun k => k = p.block) ⟨rfl, rfl, rfl, by simp [World.setCell], fun k _ hn => Below.heap_setCell W' p u k hn⟩ (fun k e => by rw [e]; exact hp)
theorem Mv.alloc {W W' : World} {S : Nat → Prop} (h : Mv W W' S) (o : Obj) : Mv W (W'.alloc o) S := h.trans (Mv.of_below (below_alloc (Below.refl _ _) o) S) (fun _ e => .inl e)
theorem Mv.drew {W W' : World} {S : Nat → Prop} (h : Mv W W' S) : Mv W W'.drew S := ⟨h.os, h.tape, h.output, h.size, h.block⟩
theorem Mv.drewN {W W' : World} {S : Nat → Prop} (h : Mv W W' S) (n : Nat) : Mv W (W'.drewN n) S := ⟨h.os, h.tape, h.output, h.size, h.block⟩
theorem Mv.kept {W W' : World} {S : Nat → Prop} (h : Mv W W' S) : Kept W W' S := ⟨h.size, h.block⟩
theorem Mv.blk {W W' : World} {S : Nat → Prop} (h : Mv W W' S) {g : Nat} {o : Obj} (hb : W.heap[g]? = some o) (hn : ¬ S g) : W'.heap[g]? = some o := (h.block g (blk_lt hb) hn).trans hb
theorem Mv.own {W W' : World} {S : Nat → Prop} (h : Mv W W' S) {base e size n : Nat} {v : Value} {xs : List Value} (ho : W.ownsRow base e size v n xs) (hn : ∀ k, v.ownBlock = some k → ¬ S k) : W'.ownsRow base e size v n xs :=
  own_move ho (fun k hk => h.block k (own_lt ho k hk) (hn k hk))
theorem Mv.C {α : Type} {d : Kd α} (hd : ∀ {W W' : World} {x : α} {cs : List Value}, d.K W x cs → d.K W' x cs) {W W' : World} {S : Nat → Prop} (h : Mv W W' S) {A : Option Addr} {n : Nat} {xs : List α} (hC : d.C W A n xs) (hn : ∀ ad, A = some ad → 0 < n → ¬ S ad.block) : d.C W' A n xs := by
  refine ⟨hC.1, hC.2.1, fun hp => ?_⟩
  obtain ⟨ad, rfl, hc⟩ := hC.2.2 hp
  refine ⟨ad, rfl, fun j p hj => ?_⟩
  obtain ⟨c, hl, hk, hcell⟩ := hc j p hj
  refine ⟨c, hl, hd hk, fun i u hu => ?_⟩
  have h1 := hcell i u hu
  have hblk : (ad.add (j * d.sz + i)).block = ad.block := add_block _ _
  have h2 := World.block_lt_of_cell? W _ h1
  exact (World.cell?_of_block (h.block _ h2 (by rw [hblk]; exact hn ad rfl hp))).trans h1
def ptrP : Option Nat → Value
  | none => .pointer none
  | some q => .pointer (some ⟨q, 0, none⟩)
def epCells (hdr : Value) (img : ByteArray) (pp : List (Option Nat)) (now : Value) : Array Value := (hdr :: .string img :: (pp.map ptrP ++ [now])).toArray
/-- A memory: what stands at each place, which pages are one's own; and what else stands in the process' block. -/
structure Mem where
  b : List Int
  o : List Bool
  hdr : Value
  img : ByteArray
  now : Value
def memK : MemK Mem :=
  ⟨fun m at_ => (m, if 0 ≤ at_ ∧ at_ < 4096 then (rd m.b at_, true) else (0, false)),
   fun m at_ x => if 0 ≤ at_ ∧ at_ < 4096 then (⟨m.b.set at_.toNat x, m.o.set (at_.toNat / 256) true, m.hdr, m.img, m.now⟩, true) else (m, false)⟩
def imgAt (img : ByteArray) (a : Nat) : Int := if h : a < img.size then ((img[a]).toNat : Int) else 0
def pageOf (b : List Int) (k : Nat) : Array Value := (((b.drop (256 * k)).take 256).map (Value.int .u8)).toArray
structure MemAt (W : World) (g : Nat) (pp : List (Option Nat)) (m : Mem) : Prop where
  box : W.heap[g]? = some (.cells (epCells m.hdr m.img pp m.now) 67 (0, 0))
  lb : m.b.length = 4096
  lo : m.o.length = 16
  lp : pp.length = 16
  no : ∀ k, pp[k]? = some none → m.o[k]? = some false ∧ ∀ j, j < 256 → m.b[256 * k + j]? = some (imgAt m.img (256 * k + j))
  yes : ∀ k q, pp[k]? = some (some q) → m.o[k]? = some true ∧ W.heap[q]? = some (.cells (pageOf m.b k) 97 (0, 0)) ∧ q ≠ g
  inj : ∀ (k l : Nat) (q : Nat), pp[k]? = some (some q) → pp[l]? = some (some q) → k = l
  byt : ∀ x ∈ m.b, 0 ≤ x ∧ x ≤ 255
theorem MemAt.mv {W W' : World} {g : Nat} {pp : List (Option Nat)} {m : Mem} (h : MemAt W g pp m) {S : Nat → Prop} (hm : Mv W W' S) (h1 : ¬ S g) (h2 : ∀ k : Nat, some k ∈ pp → ¬ S k) : MemAt W' g pp m :=
  ⟨hm.blk h.box h1, h.lb, h.lo, h.lp, h.no, fun k q hq => ⟨(h.yes k q hq).1, hm.blk (h.yes k q hq).2.1 (h2 q (List.mem_of_getElem? hq)), (h.yes k q hq).2.2⟩, h.inj, h.byt⟩
def MemP (W : World) (p : Value) (f : Nat → Prop) (m : Mem) : Prop := ∃ g pp, p = .pointer (some ⟨g, 1, none⟩) ∧ MemAt W g pp m ∧ ∀ k : Nat, f k ↔ k = g ∨ some k ∈ pp
theorem MemP.mv {W W' : World} {p : Value} {f : Nat → Prop} {m : Mem} (h : MemP W p f m) {S : Nat → Prop} (hm : Mv W W' S) (hs : ∀ k, f k → ¬ S k) : MemP W' p f m := by
  obtain ⟨g, pp, e, ha, hf⟩ := h
  exact ⟨g, pp, e, ha.mv hm (hs _ ((hf _).2 (.inl rfl))) (fun k hk => hs k ((hf k).2 (.inr hk))), hf⟩
theorem MemP.lt {W : World} {p : Value} {f : Nat → Prop} {m : Mem} (h : MemP W p f m) : ∀ k, f k → k < W.heap.size := by
  obtain ⟨g, pp, e, ha, hf⟩ := h
  intro k hk
  rcases (hf k).1 hk with rfl | hk
  · exact blk_lt ha.box
  · obtain ⟨i, hi⟩ := List.getElem?_of_mem hk
    exact blk_lt (ha.yes i k hi).2.1
def LoadPost (W : World) (p : Value) (f : Nat → Prop) (m : Mem) (r : Mem × Int × Bool) (e : Ending) (W' : World) : Prop := ∃ f', e = .returned (.tuple #[.int .u8 r.2.1, .bool r.2.2]) ∧ MemP W' p f' r.1 ∧ Mv W W' f ∧ ∀ k, f' k → f k ∨ W.heap.size ≤ k
def StorePost (W : World) (p : Value) (f : Nat → Prop) (m : Mem) (r : Mem × Bool) (e : Ending) (W' : World) : Prop := ∃ f', e = .returned (.bool r.2) ∧ MemP W' p f' r.1 ∧ Mv W W' f ∧ ∀ k, f' k → f k ∨ W.heap.size ≤ k
theorem MemAt.cells {W : World} {g : Nat} {pp : List (Option Nat)} {m : Mem} (h : MemAt W g pp m) : W.cell? ⟨g, 0, none⟩ = some m.hdr ∧ W.cell? ⟨g, 1, none⟩ = some (.string m.img) ∧ (∀ k x, pp[k]? = some x → W.cell? ⟨g, 2 + k, none⟩ = some (ptrP x)) ∧ W.cell? ⟨g, 18, none⟩ = some m.now := by
  have hl := h.lp
  refine ⟨(blk_cell h.box 0).trans rfl, (blk_cell h.box 1).trans rfl, fun k x hk => (blk_cell h.box (2 + k)).trans ?_, (blk_cell h.box 18).trans ?_⟩
  · have := (List.getElem?_eq_some_iff.1 hk).1
    unfold epCells
    rw [List.getElem?_toArray, show 2 + k = k + 1 + 1 by omega, List.getElem?_cons_succ, List.getElem?_cons_succ, List.getElem?_append_left (by simpa using this), List.getElem?_map, hk]
    rfl
  · unfold epCells
    rw [List.getElem?_toArray, show 18 = 16 + 1 + 1 by omega, List.getElem?_cons_succ, List.getElem?_cons_succ, List.getElem?_append_right (by simp; omega)]
    simp [hl]
theorem pageOf_at {b : List Int} (hb : b.length = 4096) {k j : Nat} (hk : k < 16) (hj : j < 256) : (pageOf b k)[j]? = some (.int .u8 (rd b (256 * k + j : Nat))) := by
  unfold pageOf
  rw [List.getElem?_toArray, List.getElem?_map, List.getElem?_take_of_lt hj, List.getElem?_drop, List.getElem?_eq_getElem (by omega)]
  unfold rd
  rw [Int.toNat_natCast, List.getD_eq_getElem?_getD, List.getElem?_eq_getElem (by omega)]
  rfl
set_option maxHeartbeats 4000000 in
set_option maxRecDepth 100000 in
theorem load_quiet (W : World) (g : Nat) (pp : List (Option Nat)) (m : Mem) (ha : MemAt W g pp m) (at_ : Int) : Calls Try.prog 30 #[.pointer (some ⟨g, 1, none⟩), .int .i64 at_] W fun e W' => e = .returned (.tuple #[.int .u8 (memK.load m at_).2.1, .bool (memK.load m at_).2.2]) ∧ W = W' := by
  by_cases hin : 0 ≤ at_ ∧ at_ < 4096
  · obtain ⟨a, rfl⟩ := Int.eq_ofNat_of_zero_le hin.1
    have hal : a < 4096 := by omega
    have t0 : decide ((a : Int) < 0) = false := decide_eq_false (by omega)
    have t1 : decide ((a : Int) ≥ 4096) = false := decide_eq_false (by omega)
    have t2 : decide (4096 ≤ (a : Int)) = false := decide_eq_false (by omega)
    have HE := Aside0.mk (show memK.load m (a : Int) = (m, rd m.b (a : Int), true) from by unfold memK; dsimp only; rw [if_pos hin])
    obtain ⟨k, hk⟩ : ∃ k, a / 256 = k := ⟨_, rfl⟩
    obtain ⟨j, hj⟩ : ∃ j, a % 256 = j := ⟨_, rfl⟩
    have hkl : k < 16 := by omega
    have hjl : j < 256 := by omega
    have hak : a = 256 * k + j := by omega
    obtain ⟨_, q1, q2, _⟩ := ha.cells
    have e1 : Int.tdiv (a : Int) 256 = (k : Int) := by rw [← hk]; rfl
    have e2 : Int.tmod (a : Int) 256 = (j : Int) := by rw [← hj]; rfl
    have i1 : (k : Int) < 16 := by omega
    have i2 : (j : Int) < 256 := by omega
    obtain ⟨x, hx⟩ : ∃ x, pp[k]? = some x := ⟨_, List.getElem?_eq_getElem (by rw [ha.lp]; exact hkl)⟩
    cases x with
    | none =>
      have hn := (ha.no k hx).2 j hjl
      rw [← hak] at hn
      have HN := Aside0.mk hn
      have q3 : W.cell? ⟨g, 2 + k, none⟩ = some (.pointer none) := q2 k none hx
      have HL := Aside0.mk (show rd m.b (a : Int) = imgAt m.img a from by unfold rd; rw [Int.toNat_natCast, List.getD_eq_getElem?_getD, HN.out]; rfl)
      clear q2 hx hn ha hk hj hak hin
      by_cases hs : a < m.img.size
      · have t3 : decide ((a : Int) < (m.img.size : Int)) = true := decide_eq_true (by omega)
        have i3 : (a : Int) < (m.img.size : Int) := by omega
        go_enter Try.func30, Try.ntmps30
        go_wp2
        go_ret2
        rw [HE.out]
        dsimp only
        rw [HL.out]
        unfold imgAt
        rw [dif_pos hs]
        exact ⟨rfl, rfl⟩
      · have t3 : decide ((a : Int) < (m.img.size : Int)) = false := decide_eq_false (by omega)
        have i3 : ¬ ((a : Int) < (m.img.size : Int)) := by omega
        go_enter Try.func30, Try.ntmps30
        go_wp2
        go_ret2
        rw [HE.out]
        dsimp only
        rw [HL.out]
        unfold imgAt
        rw [dif_neg hs]
        exact ⟨rfl, rfl⟩
    | some q =>
      have q3 : W.cell? ⟨g, 2 + k, none⟩ = some (.pointer (some ⟨q, 0, none⟩)) := q2 k (some q) hx
      have hy := (ha.yes k q hx).2.1
      have q4 : W.cell? ⟨q, j, none⟩ = some (.int .u8 (rd m.b (a : Int))) := (blk_cell hy j).trans (by rw [pageOf_at ha.lb hkl hjl, ← hak])
      clear q2 hx ha hk hj hak hin hy
      go_enter Try.func30, Try.ntmps30
      go_wp2
      go_ret2
      rw [HE.out]
      exact ⟨rfl, rfl⟩
  · have HE := Aside0.mk (show memK.load m at_ = (m, 0, false) from by unfold memK; dsimp only; rw [if_neg hin])
    by_cases h0 : at_ < 0
    · have t0 : decide (at_ < 0) = true := decide_eq_true h0
      clear hin ha
      go_enter Try.func30, Try.ntmps30
      go_wp2
      go_ret2
      rw [HE.out]
      exact ⟨rfl, rfl⟩
    · have t0 : decide (at_ < 0) = false := decide_eq_false h0
      have t1 : decide (at_ ≥ 4096) = true := decide_eq_true (by omega)
      have t2 : decide (4096 ≤ at_) = true := decide_eq_true (by omega)
      clear hin ha
      go_enter Try.func30, Try.ntmps30
      go_wp2
      go_ret2
      rw [HE.out]
      exact ⟨rfl, rfl⟩
theorem load_calls (W : World) (p : Value) (f : Nat → Prop) (m : Mem) (h : MemP W p f m) (at_ : Int) : Calls Try.prog 30 #[p, .int .i64 at_] W (LoadPost W p f m (memK.load m at_)) := by
  obtain ⟨g, pp, rfl, ha, hf⟩ := h
  refine (load_quiet W g pp m ha at_).mono ?_
  rintro e W' ⟨he, rfl⟩
  exact ⟨f, he, ⟨g, pp, rfl, ha, hf⟩, Mv.refl _ _, fun k hk => .inl hk⟩
theorem epCells_set (hdr : Value) (img : ByteArray) (pp : List (Option Nat)) (now : Value) {k : Nat} (hk : k < pp.length) (x : Option Nat) : (epCells hdr img pp now).setIfInBounds (2 + k) (ptrP x) = epCells hdr img (pp.set k x) now := by
  unfold epCells
  rw [List.setIfInBounds_toArray, show 2 + k = k + 1 + 1 by omega, List.set_cons_succ, List.set_cons_succ, List.set_append_left _ _ (by simpa using hk), List.map_set]
theorem pageOf_get (b : List Int) (k j : Nat) : (pageOf b k)[j]? = if j < 256 then (b[256 * k + j]?).map (Value.int .u8) else none := by
  unfold pageOf
  rw [List.getElem?_toArray, List.getElem?_map]
  by_cases h : j < 256
  · rw [if_pos h, List.getElem?_take_of_lt h, List.getElem?_drop]
  · rw [if_neg h, List.getElem?_take_eq_none (by omega)]; rfl
theorem arr_ext {a b : Array Value} (h : ∀ i : Nat, a[i]? = b[i]?) : a = b := by
  apply Array.ext_getElem?
  exact h
theorem pageOf_set {b : List Int} {k j : Nat} (hj : j < 256) (hl : 256 * k + j < b.length) (x : Int) : (pageOf b k).setIfInBounds j (.int .u8 x) = pageOf (b.set (256 * k + j) x) k := by
  refine arr_ext fun i => ?_
  rw [pageOf_get, Array.getElem?_setIfInBounds, pageOf_get]
  by_cases e : j = i
  · subst e
    rw [if_pos rfl, if_pos hj, List.getElem?_set_self hl]
    have : j < (pageOf b k).size := by
      exact (Array.getElem?_eq_some_iff.1 (show (pageOf b k)[j]? = some (.int .u8 b[256 * k + j]) from by rw [pageOf_get, if_pos hj, List.getElem?_eq_getElem hl]; rfl)).1
    rw [if_pos this]; rfl
  · rw [if_neg e]
    by_cases h : i < 256
    · rw [if_pos h, if_pos h, List.getElem?_set_ne (by omega)]
    · rw [if_neg h, if_neg h]
theorem pageOf_other {b : List Int} {k l j : Nat} (hj : j < 256) (hkl : l ≠ k) (x : Int) : pageOf (b.set (256 * k + j) x) l = pageOf b l := by
  refine arr_ext fun i => ?_
  rw [pageOf_get, pageOf_get]
  by_cases h : i < 256
  · rw [if_pos h, if_pos h, List.getElem?_set_ne (by omega)]
  · rw [if_neg h, if_neg h]
/-- A byte into a page of one's own. -/
theorem MemAt.put {W : World} {g : Nat} {pp : List (Option Nat)} {m : Mem} (h : MemAt W g pp m) {k j q : Nat} (hk : pp[k]? = some (some q)) (hj : j < 256) {x : Int} (hx : 0 ≤ x ∧ x ≤ 255) : MemAt (W.setCell ⟨q, j, none⟩ (.int .u8 x)) g pp ⟨m.b.set (256 * k + j) x, m.o, m.hdr, m.img, m.now⟩ := by
  have hkl : k < 16 := by rw [← h.lp]; exact (List.getElem?_eq_some_iff.1 hk).1
  obtain ⟨h1, h2, h3⟩ := h.yes k q hk
  have hlen := h.lb
  refine ⟨blk_far (p := ⟨q, j, none⟩) h.box (fun e => h3 e.symm) _, by simpa using h.lb, h.lo, h.lp, fun l hl => ?_, fun l r hr => ?_, h.inj, fun y hy => (List.mem_or_eq_of_mem_set hy).elim (h.byt y) (fun e => e ▸ hx)⟩
  · obtain ⟨g1, g2⟩ := h.no l hl
    have hlk : l ≠ k := fun e => by rw [e, hk] at hl; cases hl
    exact ⟨g1, fun i hi => by
      show (m.b.set (256 * k + j) x)[256 * l + i]? = _
      rw [List.getElem?_set_ne (by omega)]; exact g2 i hi⟩
  · obtain ⟨g1, g2, g3⟩ := h.yes l r hr
    refine ⟨g1, ?_, g3⟩
    by_cases e : l = k
    · subst e
      rw [hk] at hr
      obtain rfl := Option.some.inj (Option.some.inj hr)
      show _ = some (Obj.cells (pageOf (m.b.set (256 * l + j) x) l) _ _)
      rw [← pageOf_set hj (by omega) x]
      exact blk_set g2 j _
    · show _ = some (Obj.cells (pageOf (m.b.set (256 * k + j) x) l) _ _)
      rw [pageOf_other hj e]
      exact blk_far (p := ⟨q, j, none⟩) g2 (fun e2 => e (h.inj l k q (by rw [hr, show r = q from e2]) hk)) _
/-- A page becomes one's own. -/
theorem MemAt.made {W : World} {g : Nat} {pp : List (Option Nat)} {m : Mem} (h : MemAt W g pp m) {k q : Nat} (hk : k < 16) (hq : W.heap[q]? = some (.cells (pageOf m.b k) 97 (0, 0))) (hg : q ≠ g) (hn : some q ∉ pp) : MemAt (W.setCell ⟨g, 2 + k, none⟩ (.pointer (some ⟨q, 0, none⟩))) g (pp.set k (some q)) ⟨m.b, m.o.set k true, m.hdr, m.img, m.now⟩ := by
  have hlp := h.lp
  have hlo := h.lo
  have hf : ∀ r, r ≠ g → ∀ {cs : Array Value} {t : TypeId}, W.heap[r]? = some (.cells cs t (0, 0)) → (W.setCell ⟨g, 2 + k, none⟩ (.pointer (some ⟨q, 0, none⟩))).heap[r]? = some (.cells cs t (0, 0)) := fun r hr cs t hb => blk_far (p := ⟨g, 2 + k, none⟩) hb hr _
  refine ⟨?_, h.lb, by simpa using hlo, by simpa using hlp, fun l hl => ?_, fun l r hr => ?_, fun l l' r h1 h2 => ?_, h.byt⟩
  · have := blk_set h.box (2 + k) (.pointer (some ⟨q, 0, none⟩))
    rw [show (Value.pointer (some ⟨q, 0, none⟩)) = ptrP (some q) from rfl, epCells_set _ _ _ _ (by omega)] at this
    exact this
  · by_cases e : l = k
    · subst e; rw [List.getElem?_set_self (by omega)] at hl; cases hl
    · rw [List.getElem?_set_ne (Ne.symm e)] at hl
      obtain ⟨g1, g2⟩ := h.no l hl
      exact ⟨by show (m.o.set k true)[l]? = _; rw [List.getElem?_set_ne (Ne.symm e)]; exact g1, g2⟩
  · by_cases e : l = k
    · subst e
      rw [List.getElem?_set_self (by omega)] at hr
      obtain rfl := Option.some.inj (Option.some.inj hr)
      exact ⟨by show (m.o.set l true)[l]? = _; rw [List.getElem?_set_self (by omega)], hf q hg hq, hg⟩
    · rw [List.getElem?_set_ne (Ne.symm e)] at hr
      obtain ⟨g1, g2, g3⟩ := h.yes l r hr
      exact ⟨by show (m.o.set k true)[l]? = _; rw [List.getElem?_set_ne (Ne.symm e)]; exact g1, hf r g3 g2, g3⟩
  · have hne : ∀ l r, l ≠ k → (pp.set k (some q))[l]? = some (some r) → r ≠ q := fun l r e hr e2 => by
      rw [List.getElem?_set_ne (Ne.symm e), e2] at hr
      exact hn (List.mem_of_getElem? hr)
    by_cases e1 : l = k
    · by_cases e2 : l' = k
      · rw [e1, e2]
      · subst e1
        rw [List.getElem?_set_self (by omega)] at h1
        obtain rfl := Option.some.inj (Option.some.inj h1)
        exact absurd rfl (hne l' q e2 h2)
    · by_cases e2 : l' = k
      · subst e2
        rw [List.getElem?_set_self (by omega)] at h2
        obtain rfl := Option.some.inj (Option.some.inj h2)
        exact absurd rfl (hne l q e1 h1)
      · rw [List.getElem?_set_ne (Ne.symm e1)] at h1
        rw [List.getElem?_set_ne (Ne.symm e2)] at h2
        exact h.inj l l' r h1 h2
end Go.Proofs.Ytkjdhhdkfbkgpaa.VmW
namespace Go.Proofs.Ytkjdhhdkfbkgpaa.VmW
open Go.RowKit Go.Proofs.YtkjdhhdkfbkgpaaW.PrintWords Go.Proofs.YtkjdhhdkfbkgpaaW.PrintMore Go.Proofs.YtkjdhhdkfbkgpaaW.PrintLast Go.Proofs.Ytkjdhhdkfbkgpaa.Pvm
set_option linter.unusedVariables false
set_option linter.unusedSimpArgs false
/-- A page, filled so far. -/
def pageTo (b : List Int) (k i : Nat) : Array Value := ((List.range 256).map fun j => Value.int .u8 (if j < i then rd b (256 * k + j : Nat) else 0)).toArray
theorem pageTo_get (b : List Int) (k i j : Nat) : (pageTo b k i)[j]? = if j < 256 then some (.int .u8 (if j < i then rd b (256 * k + j : Nat) else 0)) else none := by
  unfold pageTo
  rw [List.getElem?_toArray, List.getElem?_map]
  by_cases h : j < 256
  · rw [if_pos h, List.getElem?_range h]; rfl
  · rw [if_neg h, List.getElem?_eq_none (by simp; omega)]; rfl
theorem pageTo_step {b : List Int} {k i : Nat} (hi : i < 256) : (pageTo b k i).setIfInBounds i (.int .u8 (rd b (256 * k + i : Nat))) = pageTo b k (i + 1) := by
  refine arr_ext fun j => ?_
  rw [Array.getElem?_setIfInBounds, pageTo_get, pageTo_get]
  have hs : i < (pageTo b k i).size := (Array.getElem?_eq_some_iff.1 (show (pageTo b k i)[i]? = some _ from by rw [pageTo_get, if_pos hi])).1
  by_cases e : i = j
  · subst e
    rw [if_pos rfl, if_pos hs, if_pos hi, if_pos (Nat.lt_succ_self i)]
  · rw [if_neg e]
    by_cases h : j < 256
    · rw [if_pos h, if_pos h]
      by_cases h2 : j < i
      · rw [if_pos h2, if_pos (by omega)]
      · rw [if_neg h2, if_neg (by omega)]
    · rw [if_neg h, if_neg h]
theorem pageTo_all {b : List Int} (hb : b.length = 4096) {k : Nat} (hk : k < 16) : pageTo b k 256 = pageOf b k := by
  refine arr_ext fun j => ?_
  rw [pageTo_get]
  by_cases h : j < 256
  · rw [if_pos h, if_pos h, pageOf_at hb hk h]
  · rw [if_neg h, pageOf_get, if_neg h]
theorem zero_page (b : List Int) (k : Nat) : Try.zeroCells97 = pageTo b k 0 := by
  have h : Try.zeroCells97 = Array.replicate 256 (Value.int .u8 0) := by kernel_rfl
  rw [h]
  refine arr_ext fun j => ?_
  rw [pageTo_get, Array.getElem?_replicate]
  by_cases hj : j < 256
  · rw [if_pos hj, if_pos hj, if_neg (Nat.not_lt_zero j)]
  · rw [if_neg hj, if_neg hj]
/-- The memory behind a store. -/
def stored (m : Mem) (a : Nat) (x : Int) : Mem := ⟨m.b.set a x, m.o.set (a / 256) true, m.hdr, m.img, m.now⟩
set_option maxHeartbeats 4000000 in
set_option maxRecDepth 100000 in
theorem store_new (W : World) (g : Nat) (pp : List (Option Nat)) (m : Mem) (ha : MemAt W g pp m) (a : Nat) (hal : a < 4096) (x : Int) (hx : 0 ≤ x ∧ x ≤ 255) (hn : pp[a / 256]? = some none) : Calls Try.prog 31 #[.pointer (some ⟨g, 1, none⟩), .int .i64 (a : Int), .int .u8 x] W fun e W' => e = .returned (.bool true) ∧ MemAt W' g (pp.set (a / 256) (some W.heap.size)) (stored m a x) ∧ Mv W W' (fun q => q = g) := by
  have t0 : decide ((a : Int) < 0) = false := decide_eq_false (by omega)
  have t1 : decide ((a : Int) ≥ 4096) = false := decide_eq_false (by omega)
  have t2 : decide (4096 ≤ (a : Int)) = false := decide_eq_false (by omega)
  obtain ⟨k, hk⟩ : ∃ k, a / 256 = k := ⟨_, rfl⟩
  obtain ⟨j, hj⟩ : ∃ j, a % 256 = j := ⟨_, rfl⟩
  rw [hk] at hn
  have hkl : k < 16 := by omega
  have hjl : j < 256 := by omega
  have hak : a = 256 * k + j := by omega
  obtain ⟨_, _, q2, _⟩ := ha.cells
  have q3 : W.cell? ⟨g, 2 + k, none⟩ = some (.pointer none) := q2 k none hn
  have e1 : Int.tdiv (a : Int) 256 = (k : Int) := by rw [← hk]; rfl
  have i1 : (k : Int) < 16 := by omega
  have HE2 := Aside0.mk (show Int.tmod (a : Int) 256 = (j : Int) from by rw [← hj]; rfl)
  have HA := Aside0.mk ha
  have HK := Aside0.mk (And.intro hk (And.intro hj hak))
  clear q2 ha hk hj hak
  go_enter Try.func31, Try.ntmps31
  go_upto_region 7 with (fail)
  clear e1
  have hgl := blk_lt HA.out.box
  have HP0 := Aside0.mk (show (W.alloc (.cells Try.zeroCells97 97)).heap[W.heap.size]? = some (.cells (pageTo m.b k 0) 97 (0, 0)) from (heap_alloc_new W _).trans (by rw [zero_page m.b k]))
  have HB0 := Aside0.mk (below_alloc (Below.refl W.heap.size W) (.cells Try.zeroCells97 97))
  generalize World.alloc W _ = w1 at *
  clear q3
  go_loopw [26] (fun t26 wr => ∃ i : Nat, i ≤ 256 ∧ t26 = .int .i64 (i : Int) ∧ Aside0 (Below W.heap.size W wr) ∧ Aside0 (wr.heap[W.heap.size]? = some (.cells (pageTo m.b k i) 97 (0, 0)))) (fun i _ => 256 - (intOf i).toNat)
  case atStart => exact ⟨0, Nat.zero_le _, rfl, HB0, HP0⟩
  case round =>
    clear HB0 HP0
    obtain ⟨i, hi, rfl, HB, HP⟩ := hrel
    have HAw := Aside0.mk (HA.out.mv (Mv.of_below HB.out (fun _ => False)) (fun h => h) (fun _ _ h => h))
    by_cases hlt : i < 256
    · have i2 : (i : Int) < 256 := by omega
      have HLd := Aside0.mk (show Calls Try.prog 30 #[.pointer (some ⟨g, 1, none⟩), .int .i64 (wrap64 (wrap64 ((k : Int) * 256) + (i : Int)))] wr.drew fun e W' => e = .returned (.tuple #[.int .u8 (rd m.b (256 * k + i : Nat)), .bool true]) ∧ wr.drew = W' from by
        rw [show wrap64 (wrap64 ((k : Int) * 256) + (i : Int)) = (k : Int) * 256 + (i : Int) from by unfold wrap64; omega]
        have h1 := load_quiet wr.drew g pp m (HAw.out.mv (Mv.of_below (below_drew (Below.refl _ _)) (fun _ => False)) (fun h => h) (fun _ _ h => h)) ((k : Int) * 256 + (i : Int))
        rw [show memK.load m ((k : Int) * 256 + (i : Int)) = (m, rd m.b (256 * k + i : Nat), true) from by
          unfold memK; dsimp only; rw [if_pos (by omega), show ((k : Int) * 256 + (i : Int)) = ((256 * k + i : Nat) : Int) by omega]] at h1
        exact h1)
      have c0 : wr.cell? ⟨W.heap.size, i, none⟩ = some (.int .u8 0) := (blk_cell HP.out i).trans (by rw [pageTo_get, if_pos hlt, if_neg (Nat.lt_irrefl i)])
      have f0 : wr.frozen? ⟨W.heap.size, i, none⟩ = false := blk_frozen HP.out i
      go_upto_region 9 with (fail)
      refine start_ (n := 14) (S := fun w' => True) (ds := [13]) #[false, false, false, false, false, false, false, false, false, false, false, false, false, false] (by kernel_rfl) rfl rfl trivial (fun hHeld => ?_)
      refine pure_ (i := 0) (N := some 30) (v := ?_) (a' := ?_) #[true, false, false, false, false, false, false, false, false, false, false, false, false, false] rfl rfl (by kernel_rfl) (fun _ _ _ h => h) (Or.inl ⟨by rfl, ?_⟩) ?_ ?_
      rotate_left
      · intro w'
        go_simp
        with_reducible rfl
      rotate_left
      · simp only [Act.put, List.setIfInBounds_toArray, List.set_cons_zero, List.set_cons_succ, i64_w, i32_w]
        rfl
      refine pure_ (i := 1) (N := some 31) (v := ?_) (a' := ?_) #[true, true, false, false, false, false, false, false, false, false, false, false, false, false] rfl rfl (by kernel_rfl) (fun _ _ _ h => h) (Or.inl ⟨by rfl, ?_⟩) ?_ ?_
      rotate_left
      · intro w'
        go_simp
        with_reducible rfl
      rotate_left
      · simp only [Act.put, List.setIfInBounds_toArray, List.set_cons_zero, List.set_cons_succ, i64_w, i32_w]
        rfl
      refine pure_ (i := 2) (N := some 32) (v := ?_) (a' := ?_) #[true, true, true, false, false, false, false, false, false, false, false, false, false, false] rfl rfl (by kernel_rfl) (fun _ _ _ h => h) (Or.inl ⟨by rfl, ?_⟩) ?_ ?_
      rotate_left
      · intro w'
        go_simp
        with_reducible rfl
      rotate_left
      · simp only [Act.put, List.setIfInBounds_toArray, List.set_cons_zero, List.set_cons_succ, i64_w, i32_w]
        rfl
      refine pure_ (i := 3) (N := some 33) (v := ?_) (a' := ?_) #[true, true, true, true, false, false, false, false, false, false, false, false, false, false] rfl rfl (by kernel_rfl) (fun _ _ _ h => h) (Or.inl ⟨by rfl, ?_⟩) ?_ ?_
      rotate_left
      · intro w'
        go_simp
        with_reducible rfl
      rotate_left
      · simp only [Act.put, List.setIfInBounds_toArray, List.set_cons_zero, List.set_cons_succ, i64_w, i32_w]
        rfl
      refine pure_ (i := 4) (N := some 34) (v := ?_) (a' := ?_) #[true, true, true, true, true, false, false, false, false, false, false, false, false, false] rfl rfl (by kernel_rfl) (fun _ _ _ h => h) (Or.inl ⟨by rfl, ?_⟩) ?_ ?_
      rotate_left
      · intro w'
        go_simp
        with_reducible rfl
      rotate_left
      · simp only [Act.put, List.setIfInBounds_toArray, List.set_cons_zero, List.set_cons_succ, i64_w, i32_w]
        rfl
      refine pure_ (i := 5) (N := some 35) (v := ?_) (a' := ?_) #[true, true, true, true, true, true, false, false, false, false, false, false, false, false] rfl rfl (by kernel_rfl) (fun _ _ _ h => h) (Or.inl ⟨by rfl, ?_⟩) ?_ ?_
      rotate_left
      · intro w'
        go_simp
        with_reducible rfl
      rotate_left
      · simp only [Act.put, List.setIfInBounds_toArray, List.set_cons_zero, List.set_cons_succ, i64_w, i32_w]
        rfl
      refine pure_ (i := 6) (N := some 36) (v := ?_) (a' := ?_) #[true, true, true, true, true, true, true, false, false, false, false, false, false, false] rfl rfl (by kernel_rfl) (fun _ _ _ h => h) (Or.inl ⟨by rfl, ?_⟩) ?_ ?_
      rotate_left
      · intro w'
        go_simp
        with_reducible rfl
      rotate_left
      · simp only [Act.put, List.setIfInBounds_toArray, List.set_cons_zero, List.set_cons_succ, i64_w, i32_w]
        rfl
      refine pure_ (i := 11) (N := some 40) (v := ?_) (a' := ?_) #[true, true, true, true, true, true, true, false, false, false, false, true, false, false] rfl rfl (by kernel_rfl) (fun _ _ _ h => h) (Or.inl ⟨by rfl, ?_⟩) ?_ ?_
      rotate_left
      · intro w'
        go_simp
        with_reducible rfl
      rotate_left
      · simp only [Act.put, List.setIfInBounds_toArray, List.set_cons_zero, List.set_cons_succ, i64_w, i32_w]
        rfl
      refine one_ (i := 7) (N := some 37) #[true, true, true, true, true, true, true, true, false, false, false, true, false, false] rfl rfl (by kernel_rfl) (by decide) (fun K hK => ?_)
      refine goes_ Try.func30 (by kernel_rfl) rfl #[.pointer (some ⟨g, 1, none⟩), .int .i64 (wrap64 (wrap64 ((k : Int) * 256) + (i : Int)))] (by rfl) rfl rfl (by simp only [List.map_toArray, List.map_cons, List.map_nil]; rfl) ?_
      with_reducible refine (HLd.out).mono ?_
      rintro e w2 ⟨rfl, rfl⟩
      refine ⟨_, rfl, ?_⟩
      refine hK.out _ _ trivial (fun hHeld => ?_)
      clear hK K
      refine norm_ (a' := ?_) ?_ ?_
      rotate_left
      · show Act.put _ (some 37) _ = _
        simp only [Act.put, List.setIfInBounds_toArray, List.set_cons_zero, List.set_cons_succ, i64_w, i32_w]
        rfl
      refine pure_ (i := 8) (N := some 29) (v := ?_) (a' := ?_) #[true, true, true, true, true, true, true, true, true, false, false, true, false, false] rfl rfl (by kernel_rfl) (fun _ _ _ h => h) (Or.inl ⟨by rfl, ?_⟩) ?_ ?_
      rotate_left
      · intro w'
        go_simp
        with_reducible rfl
      rotate_left
      · simp only [Act.put, List.setIfInBounds_toArray, List.set_cons_zero, List.set_cons_succ, i64_w, i32_w]
        rfl
      refine pure_ (i := 9) (N := some 38) (v := ?_) (a' := ?_) #[true, true, true, true, true, true, true, true, true, true, false, true, false, false] rfl rfl (by kernel_rfl) (fun _ _ _ h => h) (Or.inl ⟨by rfl, ?_⟩) ?_ ?_
      rotate_left
      · intro w'
        go_simp
        with_reducible rfl
      rotate_left
      · simp only [Act.put, List.setIfInBounds_toArray, List.set_cons_zero, List.set_cons_succ, i64_w, i32_w]
        rfl
      refine pure_ (i := 10) (N := some 39) (v := ?_) (a' := ?_) #[true, true, true, true, true, true, true, true, true, true, true, true, false, false] rfl rfl (by kernel_rfl) (fun _ _ _ h => h) (Or.inl ⟨by rfl, ?_⟩) ?_ ?_
      rotate_left
      · intro w'
        go_simp
        with_reducible rfl
      rotate_left
      · simp only [Act.put, List.setIfInBounds_toArray, List.set_cons_zero, List.set_cons_succ, i64_w, i32_w]
        rfl
      refine pure_ (i := 12) (N := some 41) (v := ?_) (a' := ?_) #[true, true, true, true, true, true, true, true, true, true, true, true, true, false] rfl rfl (by kernel_rfl) (fun _ _ _ h => h) (Or.inl ⟨by rfl, ?_⟩) ?_ ?_
      rotate_left
      · intro w'
        go_simp
        with_reducible rfl
      rotate_left
      · simp only [Act.put, List.setIfInBounds_toArray, List.set_cons_zero, List.set_cons_succ, i64_w, i32_w]
        rfl
      refine last_ (i := 13) (N := none) #[true, true, true, true, true, true, true, true, true, true, true, true, true, true] rfl rfl (by kernel_rfl) (by decide) (fun K hK => ?_)
      refine skip_ (w1 := ?_) (by rfl) rfl ?_ ?_
      rotate_left
      · go_simp
        rfl
      refine hK.out _ _ ?_
      clear hK K
      refine done_ (by kernel_rfl) ?_

      have hp := blk_set HP.out i (.int .u8 (rd m.b (256 * k + i : Nat)))
      rw [pageTo_step hlt] at hp
      have hb := HB.out.setCell (p := ⟨W.heap.size, i, none⟩) (Nat.le_refl _) (.int .u8 (rd m.b (256 * k + i : Nat)))
      have HP2 := Aside0.mk hp
      have HB2 := Aside0.mk (below_drew hb)
      clear hp hb c0 f0
      go_wp2
      exact ⟨⟨i + 1, by omega, by go_num, HB2, HP2⟩, by simp [intOf]; omega⟩
    · obtain rfl : i = 256 := by omega
      have hq := HP.out
      rw [pageTo_all HA.out.lb hkl] at hq
      obtain ⟨_, _, c2, _⟩ := HAw.out.cells
      have q3 : wr.cell? ⟨g, 2 + k, none⟩ = some (.pointer none) := c2 k none hn
      have q4 : wr.frozen? ⟨g, 2 + k, none⟩ = false := blk_frozen HAw.out.box _
      have q5 : wr.cell? ⟨W.heap.size, j, none⟩ = some (.int .u8 (rd m.b (256 * k + j : Nat))) := (blk_cell hq j).trans (pageOf_at HA.out.lb hkl hjl)
      have q6 : wr.frozen? ⟨W.heap.size, j, none⟩ = false := blk_frozen hq j
      have hne : W.heap.size ≠ g := by omega
      have n1 : (W.heap.size = g) = False := eq_false hne
      have n2 : (g = W.heap.size) = False := eq_false (fun e => hne e.symm)
      have i2 : (j : Int) < 256 := by omega
      have hm1 := HAw.out.made hkl hq hne (fun hm => by
        obtain ⟨l, hl⟩ := List.getElem?_of_mem hm
        have := blk_lt (HA.out.yes l _ hl).2.1
        omega)
      have hm2 := hm1.put (k := k) (j := j) (q := W.heap.size) (by rw [List.getElem?_set_self (by rw [HA.out.lp]; exact hkl)]) hjl hx
      have hv : Mv W ((wr.setCell ⟨g, 2 + k, none⟩ (.pointer (some ⟨W.heap.size, 0, none⟩))).setCell ⟨W.heap.size, j, none⟩ (.int .u8 x)) (fun q => q = g) := Mv.set (S := fun q => q = g) (Mv.set (S := fun q => q = g) (Mv.of_below HB.out _) (p := ⟨g, 2 + k, none⟩) (.inl rfl) _) (p := ⟨W.heap.size, j, none⟩) (.inr (Nat.le_refl _)) _
      have HM2 := Aside0.mk hm2
      have HV := Aside0.mk hv
      clear hm1 hm2 hv c2 hq hne
      have e2 := HE2.out
      go_wp2
      clear e2
      go_ret
      refine ⟨rfl, ?_, HV.out⟩
      have h9 := HM2.out
      unfold stored
      rw [HK.out.1, HK.out.2.2]
      exact h9
set_option maxHeartbeats 4000000 in
set_option maxRecDepth 100000 in
theorem store_old (W : World) (g : Nat) (pp : List (Option Nat)) (m : Mem) (ha : MemAt W g pp m) (a : Nat) (hal : a < 4096) (x : Int) (hx : 0 ≤ x ∧ x ≤ 255) (q : Nat) (hn : pp[a / 256]? = some (some q)) : Calls Try.prog 31 #[.pointer (some ⟨g, 1, none⟩), .int .i64 (a : Int), .int .u8 x] W fun e W' => e = .returned (.bool true) ∧ MemAt W' g pp (stored m a x) ∧ Mv W W' (fun k => k = q) := by
  have t0 : decide ((a : Int) < 0) = false := decide_eq_false (by omega)
  have t1 : decide ((a : Int) ≥ 4096) = false := decide_eq_false (by omega)
  have t2 : decide (4096 ≤ (a : Int)) = false := decide_eq_false (by omega)
  obtain ⟨k, hk⟩ : ∃ k, a / 256 = k := ⟨_, rfl⟩
  obtain ⟨j, hj⟩ : ∃ j, a % 256 = j := ⟨_, rfl⟩
  rw [hk] at hn
  have hkl : k < 16 := by omega
  have hjl : j < 256 := by omega
  have hak : a = 256 * k + j := by omega
  obtain ⟨_, _, q2, _⟩ := ha.cells
  obtain ⟨g1, g2, g3⟩ := ha.yes k q hn
  have q3 : W.cell? ⟨g, 2 + k, none⟩ = some (.pointer (some ⟨q, 0, none⟩)) := q2 k (some q) hn
  have q5 : W.cell? ⟨q, j, none⟩ = some (.int .u8 (rd m.b (256 * k + j : Nat))) := (blk_cell g2 j).trans (pageOf_at ha.lb hkl hjl)
  have q6 : W.frozen? ⟨q, j, none⟩ = false := blk_frozen g2 j
  have i1 : (k : Int) < 16 := by omega
  have i2 : (j : Int) < 256 := by omega
  have hm := ha.put hn hjl hx
  have hs : m.o.set k true = m.o := by
    apply List.ext_getElem?
    intro l
    by_cases e : l = k
    · subst e; rw [List.getElem?_set_self (by rw [ha.lo]; exact hkl), g1]
    · rw [List.getElem?_set_ne (Ne.symm e)]
  have HM := Aside0.mk (show MemAt (W.setCell ⟨q, j, none⟩ (.int .u8 x)) g pp (stored m a x) from by
    unfold stored
    rw [hk, hs, hak]
    exact hm)
  have e1 : Int.tdiv (a : Int) 256 = (k : Int) := by rw [← hk]; rfl
  have e2 : Int.tmod (a : Int) 256 = (j : Int) := by rw [← hj]; rfl
  clear q2 ha hk hj hak hm hs g1 g2 g3 hn
  go_enter Try.func31, Try.ntmps31
  go_wp2
  clear e1 e2
  go_ret
  exact ⟨rfl, HM.out, Mv.set (S := fun k => k = q) (Mv.refl W _) (p := ⟨q, j, none⟩) (.inl rfl) _⟩
set_option maxHeartbeats 4000000 in
set_option maxRecDepth 100000 in
theorem store_out (W : World) (g : Nat) (at_ : Int) (h : ¬ (0 ≤ at_ ∧ at_ < 4096)) (x : Int) : Calls Try.prog 31 #[.pointer (some ⟨g, 1, none⟩), .int .i64 at_, .int .u8 x] W fun e W' => e = .returned (.bool false) ∧ W = W' := by
  by_cases h0 : at_ < 0
  · have t0 : decide (at_ < 0) = true := decide_eq_true h0
    clear h
    go_enter Try.func31, Try.ntmps31
    go_wp2
    go_ret
    exact ⟨rfl, rfl⟩
  · have t0 : decide (at_ < 0) = false := decide_eq_false h0
    have t1 : decide (at_ ≥ 4096) = true := decide_eq_true (by omega)
    have t2 : decide (4096 ≤ at_) = true := decide_eq_true (by omega)
    clear h
    go_enter Try.func31, Try.ntmps31
    go_wp2
    go_ret
    exact ⟨rfl, rfl⟩
theorem store_calls (W : World) (p : Value) (f : Nat → Prop) (m : Mem) (h : MemP W p f m) (at_ x : Int) (hxr : 0 ≤ x ∧ x ≤ 255) : Calls Try.prog 31 #[p, .int .i64 at_, .int .u8 x] W (StorePost W p f m (memK.store m at_ x)) := by
  obtain ⟨g, pp, rfl, ha, hf⟩ := h
  by_cases hin : 0 ≤ at_ ∧ at_ < 4096
  · obtain ⟨a, rfl⟩ := Int.eq_ofNat_of_zero_le hin.1
    have hE : memK.store m (a : Int) x = (stored m a x, true) := by unfold memK; dsimp only; rw [if_pos hin]; rfl
    rw [hE]
    obtain ⟨y, hy⟩ : ∃ y, pp[a / 256]? = some y := ⟨_, List.getElem?_eq_getElem (by rw [ha.lp]; omega)⟩
    cases y with
    | none =>
      refine (store_new W g pp m ha a (by omega) x hxr hy).mono ?_
      rintro e W' ⟨he, hm, hv⟩
      refine ⟨fun k => k = g ∨ some k ∈ pp.set (a / 256) (some W.heap.size), he, ⟨g, _, rfl, hm, fun k => Iff.rfl⟩, hv.mono (fun k e => .inl ((hf k).2 (.inl e))), fun k hk => ?_⟩
      rcases hk with hk | hk
      · exact .inl ((hf k).2 (.inl hk))
      · rcases List.mem_or_eq_of_mem_set hk with hk | hk
        · exact .inl ((hf k).2 (.inr hk))
        · exact .inr (Nat.le_of_eq (Option.some.inj hk).symm)
    | some q =>
      refine (store_old W g pp m ha a (by omega) x hxr q hy).mono ?_
      rintro e W' ⟨he, hm, hv⟩
      exact ⟨f, he, ⟨g, pp, rfl, hm, hf⟩, hv.mono (fun k e => .inl ((hf k).2 (.inr (by rw [e]; exact List.mem_of_getElem? hy)))), fun k hk => .inl hk⟩
  · have hE : memK.store m at_ x = (m, false) := by unfold memK; dsimp only; rw [if_neg hin]
    rw [hE]
    refine (store_out W g at_ hin x).mono ?_
    rintro e W' ⟨he, rfl⟩
    exact ⟨f, he, ⟨g, pp, rfl, ha, hf⟩, Mv.refl _ _, fun k hk => .inl hk⟩
theorem MemP.ptr {W : World} {p : Value} {f : Nat → Prop} {m : Mem} (h : MemP W p f m) : ∃ ad, p = .pointer (some ad) := by
  obtain ⟨g, pp, e, _⟩ := h
  exact ⟨_, e⟩
theorem MemP.range {W : World} {p : Value} {f : Nat → Prop} {m m' : Mem} {x y : Int} {ok : Bool} (h : MemP W p f m) (hr : memK.load m x = (m', y, ok)) : 0 ≤ y ∧ y ≤ 255 := by
  obtain ⟨g, pp, e, ha, _⟩ := h
  unfold memK at hr
  dsimp only at hr
  injection hr with _ hr
  by_cases hin : 0 ≤ x ∧ x < 4096
  · rw [if_pos hin] at hr
    injection hr with hr _
    rw [← hr]
    refine ha.byt _ ?_
    have := ha.lb
    unfold rd
    rw [List.getD_eq_getElem?_getD, List.getElem?_eq_getElem (show x.toNat < m.b.length by omega)]
    exact List.getElem_mem _
  · rw [if_neg hin] at hr
    injection hr with hr _
    omega
theorem method_load (ad : Addr) (w : World) : (Go.method (Try.prog.types.size + Made.depth) 94 (.pointer (some ad)) "Load").run Try.prog w = .ok (30, .pointer (some ad)) w := by kernel_rfl
theorem method_store (ad : Addr) (w : World) : (Go.method (Try.prog.types.size + Made.depth) 94 (.pointer (some ad)) "Store").run Try.prog w = .ok (31, .pointer (some ad)) w := by kernel_rfl
end Go.Proofs.Ytkjdhhdkfbkgpaa.VmW
