/- An event process in memory. Event processes: Begin, Busy, Fuel, Input, trapped. Event processes: slices.Clone of a code, New. Event processes: Text. Event processes: what Run does, step by step. Event processes: the machine's run of a request. Event processes: Run's state. -/
import Derived.Test.YtkjdhhdkfbkgpaaVmMR
import Derived.Test.YtkjdhhdkfbkgpaaWFootNe
namespace Go.Proofs.Ytkjdhhdkfbkgpaa.VmW
open Go.RowKit Go.Proofs.YtkjdhhdkfbkgpaaW.PrintWords Go.Proofs.YtkjdhhdkfbkgpaaW.PrintMore Go.Proofs.YtkjdhhdkfbkgpaaW.PrintLast Go.Proofs.Ytkjdhhdkfbkgpaa.Pvm
set_option linter.unusedVariables false
set_option linter.unusedSimpArgs false
theorem epCells_now (hdr : Value) (img : ByteArray) (pp : List (Option Nat)) (now : Value) (hl : pp.length = 16) (v : Value) : (epCells hdr img pp now).setIfInBounds 18 v = epCells hdr img pp v := by
  unfold epCells
  rw [List.setIfInBounds_toArray, show 18 = 16 + 1 + 1 by omega, List.set_cons_succ, List.set_cons_succ, List.set_append_right _ _ (by simp [hl])]
  simp [hl]
/-- A request that goes on. -/
structure Rq where
  s : St
  text : ByteArray
  fuel : Int
  tr : Bool
/-- What an event process is. -/
structure EpS where
  code : List In
  b : List Int
  o : List Bool
  now : Option Rq
structure RqD where
  rb : Nat
  A1 : Option Addr
  c1 : Nat
  A2 : Option Addr
  c2 : Nat
structure EpD where
  pp : List (Option Nat)
  img : ByteArray
  A : Option Addr
  c : Nat
  rq : Option RqD
def nowV : Option RqD → Value
  | none => .pointer none
  | some d => .pointer (some ⟨d.rb, 0, none⟩)
/-- The blocks that its calls write to. -/
def EpD.F (d : EpD) (g k : Nat) : Prop := k = g ∨ some k ∈ d.pp ∨ ∃ r, d.rq = some r ∧ k = r.rb
def rqCells (d : RqD) (r : Rq) : Array Value := #[.int .i64 r.s.pc, .slice d.A1 r.s.st.length d.c1, .slice d.A2 r.s.ca.length d.c2, .string r.text, .int .i64 r.fuel, .bool r.tr]
structure RqAt (W : World) (g : Nat) (pp : List (Option Nat)) (K : Nat → Prop) (n : Nat) (d : RqD) (r : Rq) : Prop where
  box : W.heap[d.rb]? = some (.cells (rqCells d r) 91 (0, 0))
  st : Kd.V (Kd.int .i64) 3 W 0 K (.slice d.A1 r.s.st.length d.c1) r.s.st
  ca : Kd.V (Kd.int .i64) 3 W 0 K (.slice d.A2 r.s.ca.length d.c2) r.s.ca
  ne : d.rb ≠ g
  np : some d.rb ∉ pp
  may : mayP r.s n
  fu : 0 ≤ r.fuel ∧ r.fuel ≤ 1048576
def NowAt (W : World) (g : Nat) (pp : List (Option Nat)) (K : Nat → Prop) (n : Nat) : Option RqD → Option Rq → Prop
  | none, none => True
  | some d, some r => RqAt W g pp K n d r
  | _, _ => False
structure EpAt (W : World) (g : Nat) (d : EpD) (K : Nat → Prop) (x : EpS) : Prop where
  mem : MemAt W g d.pp ⟨x.b, x.o, .slice d.A x.code.length d.c, d.img, nowV d.rq⟩
  code : Kd.V kIn 27 W 0 K (.slice d.A x.code.length d.c) x.code
  chk : (chkP x.code).1 = 0
  now : NowAt W g d.pp K x.code.length d.rq x.now
  apart : ∀ k, d.F g k → ¬ K k
  kb : ∀ k, K k → k < W.heap.size
section
variable {W W' W2 : World} {g : Nat} {d : EpD} {K : Nat → Prop} {x : EpS}
theorem RqAt.mv {pp : List (Option Nat)} {n : Nat} {e : RqD} {r : Rq} (h : RqAt W g pp K n e r) {S : Nat → Prop} (hm : Mv W W' S) (h1 : ¬ S e.rb) (h2 : ∀ k, K k → ¬ S k) : RqAt W' g pp K n e r :=
  ⟨hm.blk h.box h1, Kd.V_step h.st (fun k hk hlt => hm.block k hlt (h2 k hk)), Kd.V_step h.ca (fun k hk hlt => hm.block k hlt (h2 k hk)), h.ne, h.np, h.may, h.fu⟩
theorem EpAt.mv (h : EpAt W g d K x) {S : Nat → Prop} (hm : Mv W W' S) (h1 : ∀ k, d.F g k → ¬ S k) (h2 : ∀ k, K k → ¬ S k) : EpAt W' g d K x := by
  refine ⟨h.mem.mv hm (h1 g (.inl rfl)) (fun k hk => h1 k (.inr (.inl hk))), Kd.V_step h.code (fun k hk hlt => hm.block k hlt (h2 k hk)), h.chk, ?_, h.apart, fun k hk => Nat.lt_of_lt_of_le (h.kb k hk) hm.size⟩
  have hn := h.now
  revert hn
  rcases hd : d.rq with _ | e <;> rcases hx : x.now with _ | r
  · exact id
  · exact id
  · exact id
  · exact fun hn => RqAt.mv hn hm (h1 _ (.inr (.inr ⟨e, hd, rfl⟩))) h2
theorem EpAt.step (h : EpAt W g d K x) (hb : Below W.heap.size W W') : EpAt W' g d K x := h.mv (Mv.of_below hb (fun _ => False)) (fun _ _ e => e) (fun _ _ e => e)
theorem EpAt.cells (h : EpAt W g d K x) : W.cell? ⟨g, 0, none⟩ = some (.slice d.A x.code.length d.c) ∧ W.cell? ⟨g, 18, none⟩ = some (nowV d.rq) ∧ W.frozen? ⟨g, 18, none⟩ = false ∧ g < W.heap.size :=
  ⟨h.mem.cells.1, h.mem.cells.2.2.2, blk_frozen h.mem.box 18, blk_lt h.mem.box⟩
theorem EpAt.long (h : EpAt W g d K x) : 1 ≤ x.code.length ∧ x.code.length ≤ 1024 := by
  have := chkP_ok.1 h.chk
  exact ⟨this.1, this.2.1⟩
set_option maxHeartbeats 4000000 in
set_option maxRecDepth 100000 in
theorem EpAt.given (h : EpAt W g d K x) : Calls Try.prog 28 #[.pointer (some ⟨g, 0, none⟩)] W fun e W' => e = .returned (.bool true) ∧ W = W' := by
  obtain ⟨c0, _, _, hgl⟩ := h.cells
  have hl := h.long
  have i0 : (0 : Int) < (x.code.length : Int) := by omega
  have t0 : decide ((x.code.length : Int) > 0) = true := decide_eq_true i0
  have t1 : decide (0 < (x.code.length : Int)) = true := decide_eq_true i0
  have t2 : decide (0 < x.code.length) = true := decide_eq_true (by omega)
  clear h hl
  go_enter Try.func28, Try.ntmps28
  go_wp2
  go_ret
  exact ⟨rfl, rfl⟩
set_option maxHeartbeats 4000000 in
set_option maxRecDepth 100000 in
theorem nil_given (W : World) : Calls Try.prog 28 #[.pointer none] W fun e W' => e = .returned (.bool false) ∧ W = W' := by
  go_enter Try.func28, Try.ntmps28
  go_wp2
  go_ret
  exact ⟨rfl, rfl⟩
set_option maxHeartbeats 4000000 in
set_option maxRecDepth 100000 in
theorem zero_given (W : World) (g : Nat) (h : W.cell? ⟨g, 0, none⟩ = some (.slice none 0 0)) : Calls Try.prog 28 #[.pointer (some ⟨g, 0, none⟩)] W fun e W' => e = .returned (.bool false) ∧ W = W' := by
  go_enter Try.func28, Try.ntmps28
  go_wp2
  go_ret
  exact ⟨rfl, rfl⟩
def beginP (x : EpS) (input : ByteArray) (fuel : Int) : EpS × Int :=
  if x.now.isSome then (x, 2) else if 65536 < input.size then (x, 4) else if fuel < 1 ∨ 1048576 < fuel then (x, 1) else (⟨x.code, x.b, x.o, some ⟨⟨0, [], []⟩, input, fuel, false⟩⟩, 0)
/-- Behind a call on an event process. -/
def EpPost (W : World) (g : Nat) (d : EpD) (K : Nat → Prop) (x' : EpS) (W' : World) : Prop := ∃ d' K', EpAt W' g d' K' x' ∧ Mv W W' (d.F g) ∧ (∀ k, d'.F g k → d.F g k ∨ W.heap.size ≤ k) ∧ ∀ k, K' k → K k ∨ W.heap.size ≤ k
theorem EpAt.same (h : EpAt W g d K x) : EpPost W g d K x W := ⟨d, K, h, Mv.refl _ _, fun k hk => .inl hk, fun k hk => .inl hk⟩
theorem EpAt.begun (h : EpAt W g d K x) (hn : x.now = none) (input : ByteArray) (fuel : Int) (hf : 1 ≤ fuel ∧ fuel ≤ 1048576) :
    EpPost W g d K ⟨x.code, x.b, x.o, some ⟨⟨0, [], []⟩, input, fuel, false⟩⟩ ((W.alloc (.cells #[.int .i64 0, .slice none 0 0, .slice none 0 0, .string input, .int .i64 fuel, .bool false] 91)).setCell ⟨g, 18, none⟩ (.pointer (some ⟨W.heap.size, 0, none⟩))) := by
  have hd : d.rq = none := by
    have hnow := h.now
    rw [hn] at hnow
    rcases hr : d.rq with _ | e
    · rfl
    · rw [hr] at hnow; exact hnow.elim
  have hgl := blk_lt h.mem.box
  have hb := below_alloc (Below.refl W.heap.size W) (.cells #[.int .i64 0, .slice none 0 0, .slice none 0 0, .string input, .int .i64 fuel, .bool false] 91)
  have hm := h.mem.mv (Mv.of_below hb (fun _ => False)) (fun e => e) (fun _ _ e => e)
  have hx := heap_alloc_new W (.cells #[.int .i64 0, .slice none 0 0, .slice none 0 0, .string input, .int .i64 fuel, .bool false] 91)
  have hlp := h.mem.lp
  have hmv : Mv W ((W.alloc (.cells #[.int .i64 0, .slice none 0 0, .slice none 0 0, .string input, .int .i64 fuel, .bool false] 91)).setCell ⟨g, 18, none⟩ (.pointer (some ⟨W.heap.size, 0, none⟩))) (d.F g) := (Mv.of_below hb _).set (p := ⟨g, 18, none⟩) (.inl (.inl rfl)) _
  have hnp : some W.heap.size ∉ d.pp := fun hm2 => by
    obtain ⟨l, hl⟩ := List.getElem?_of_mem hm2
    have := blk_lt (h.mem.yes l _ hl).2.1
    omega
  have hnk : ∀ k, K k → k ≠ g := fun k hk e => h.apart g (.inl rfl) (e ▸ hk)
  refine ⟨⟨d.pp, d.img, d.A, d.c, some ⟨W.heap.size, none, 0, none, 0⟩⟩, K, ⟨?_, ?_, h.chk, ⟨?_, Kd.V_nil _ _ _ _ _, Kd.V_nil _ _ _ _ _, by show W.heap.size ≠ g; omega, hnp, ?_, by show 0 ≤ fuel ∧ fuel ≤ 1048576; omega⟩, ?_, fun k hk => ?_⟩, hmv, fun k hk => ?_, fun k hk => .inl hk⟩
  · refine ⟨?_, hm.lb, hm.lo, hm.lp, hm.no, fun k q hq => ⟨(hm.yes k q hq).1, blk_far (p := ⟨g, 18, none⟩) (hm.yes k q hq).2.1 (hm.yes k q hq).2.2 _, (hm.yes k q hq).2.2⟩, hm.inj, hm.byt⟩
    refine (blk_set hm.box 18 _).trans ?_
    show some (Obj.cells ((epCells _ _ _ _).setIfInBounds 18 _) _ _) = some (Obj.cells (epCells _ _ _ (nowV (some ⟨W.heap.size, none, 0, none, 0⟩))) _ _)
    rw [epCells_now _ _ _ _ hlp]
    rfl
  · exact Kd.V_far (Kd.V_below h.code hb) (p := ⟨g, 18, none⟩) (fun k hk => hnk k hk) _
  · exact blk_far (p := ⟨g, 18, none⟩) hx (show W.heap.size ≠ g by omega) _
  · exact ⟨by simp, by simp, by simp, by simp, by simp⟩
  · rintro k (hk | hk | ⟨r, hr, hk⟩) hK
    · exact h.apart k (.inl hk) hK
    · exact h.apart k (.inr (.inl hk)) hK
    · obtain rfl := Option.some.inj hr
      have := h.kb k hK
      have hk : k = W.heap.size := hk
      omega
  · have := h.kb k hk
    have := hmv.size
    omega
  · rcases hk with hk | hk | ⟨r, hr, hk⟩
    · exact .inl (.inl hk)
    · exact .inl (.inr (.inl hk))
    · obtain rfl := Option.some.inj hr
      exact .inr (Nat.le_of_eq hk.symm)
end
end Go.Proofs.Ytkjdhhdkfbkgpaa.VmW
namespace Go.Proofs.Ytkjdhhdkfbkgpaa.VmW
open Go.RowKit Go.Proofs.YtkjdhhdkfbkgpaaW.PrintWords Go.Proofs.YtkjdhhdkfbkgpaaW.PrintMore Go.Proofs.YtkjdhhdkfbkgpaaW.PrintLast Go.Proofs.Ytkjdhhdkfbkgpaa.Pvm
set_option linter.unusedVariables false
set_option linter.unusedSimpArgs false
section
variable {W W' W2 : World} {g : Nat} {d : EpD} {K : Nat → Prop} {x : EpS}
/-- What the process' last cell holds. -/
theorem EpAt.nowc (h : EpAt W g d K x) : (x.now = none ∧ nowV d.rq = .pointer none) ∨ ∃ r e, x.now = some r ∧ d.rq = some e ∧ nowV d.rq = .pointer (some ⟨e.rb, 0, none⟩) ∧ RqAt W g d.pp K x.code.length e r := by
  have hn := h.now
  revert hn
  rcases hd : d.rq with _ | e <;> rcases hx : x.now with _ | r
  · exact fun _ => .inl ⟨rfl, rfl⟩
  · exact fun hn => hn.elim
  · exact fun hn => hn.elim
  · exact fun hn => .inr ⟨r, e, rfl, rfl, rfl, hn⟩
set_option maxHeartbeats 4000000 in
set_option maxRecDepth 100000 in
theorem EpAt.begin_calls (h : EpAt W g d K x) (input : ByteArray) (fuel : Int) : Calls Try.prog 16 #[.pointer (some ⟨g, 0, none⟩), .string input, .int .i64 fuel] W fun e W' => e = .returned (.int .i64 (beginP x input fuel).2) ∧ EpPost W g d K (beginP x input fuel).1 W' := by
  have HG := Aside0.mk h.given
  have HS := Aside0.mk h.same
  obtain ⟨_, c1, f1, hgl⟩ := h.cells
  unfold beginP
  rcases h.nowc with ⟨hn, hv⟩ | ⟨r, e, hn, hd, hv, hr⟩
  · rw [hn]
    rw [hv] at c1
    by_cases h1 : 65536 < input.size
    · have i1 : decide ((input.size : Int) > 65536) = true := decide_eq_true (by omega)
      have i2 : decide (65536 < (input.size : Int)) = true := decide_eq_true (by omega)
      have i3 : decide (65536 < input.size) = true := decide_eq_true h1
      rw [if_neg (by simp), if_pos h1]
      clear h hn hv h1
      go_enter Try.func16, Try.ntmps16
      go_wp2_with (go_at_call 28; (with_reducible refine HG.out.mono ?_); rintro e w1 ⟨rfl, rfl⟩)
      go_ret
      exact ⟨rfl, HS.out⟩
    · have i1 : decide ((input.size : Int) > 65536) = false := decide_eq_false (by omega)
      have i2 : decide (65536 < (input.size : Int)) = false := decide_eq_false (by omega)
      have i3 : decide (65536 < input.size) = false := decide_eq_false h1
      rw [if_neg (by simp), if_neg h1]
      by_cases h2 : fuel < 1
      · have j1 : decide (fuel < 1) = true := decide_eq_true h2
        rw [if_pos (.inl h2)]
        clear h hn hv h1 h2
        go_enter Try.func16, Try.ntmps16
        go_wp2_with (go_at_call 28; (with_reducible refine HG.out.mono ?_); rintro e w1 ⟨rfl, rfl⟩)
        go_ret
        exact ⟨rfl, HS.out⟩
      · have j1 : decide (fuel < 1) = false := decide_eq_false h2
        by_cases h3 : 1048576 < fuel
        · have j2 : decide (fuel > 1048576) = true := decide_eq_true h3
          have j3 : decide (1048576 < fuel) = true := decide_eq_true h3
          rw [if_pos (.inr h3)]
          clear h hn hv h1 h2 h3
          go_enter Try.func16, Try.ntmps16
          go_wp2_with (go_at_call 28; (with_reducible refine HG.out.mono ?_); rintro e w1 ⟨rfl, rfl⟩)
          go_ret
          exact ⟨rfl, HS.out⟩
        · have j2 : decide (fuel > 1048576) = false := decide_eq_false (by omega)
          have j3 : decide (1048576 < fuel) = false := decide_eq_false h3
          rw [if_neg (by omega)]
          have hbg := h.begun hn input fuel (by omega)
          rw [World.setCell_alloc_past _ _ _ _ hgl] at hbg
          have HP := Aside0.mk hbg
          clear hbg
          clear h hn hv h1 h2 h3
          go_enter Try.func16, Try.ntmps16
          go_wp2_with (go_at_call 28; (with_reducible refine HG.out.mono ?_); rintro e w1 ⟨rfl, rfl⟩)
          go_ret
          exact ⟨rfl, HP.out⟩
  · rw [hn]
    rw [hv] at c1
    rw [if_pos (by simp)]
    clear h hn hv hd hr
    go_enter Try.func16, Try.ntmps16
    go_wp2_with (go_at_call 28; (with_reducible refine HG.out.mono ?_); rintro e w1 ⟨rfl, rfl⟩)
    go_ret
    exact ⟨rfl, HS.out⟩
set_option maxHeartbeats 4000000 in
set_option maxRecDepth 100000 in
theorem EpAt.busy (h : EpAt W g d K x) : Calls Try.prog 19 #[.pointer (some ⟨g, 0, none⟩)] W fun e W' => e = .returned (.bool x.now.isSome) ∧ W = W' := by
  have HG := Aside0.mk h.given
  obtain ⟨_, c1, f1, hgl⟩ := h.cells
  rcases h.nowc with ⟨hn, hv⟩ | ⟨r, e, hn, hd, hv, hr⟩
  · rw [hn]
    rw [hv] at c1
    clear h hn hv
    go_enter Try.func19, Try.ntmps19
    go_wp2_with (go_at_call 28; (with_reducible refine HG.out.mono ?_); rintro e w1 ⟨rfl, rfl⟩)
    go_ret
    exact ⟨rfl, rfl⟩
  · rw [hn]
    rw [hv] at c1
    clear h hn hv hd hr
    go_enter Try.func19, Try.ntmps19
    go_wp2_with (go_at_call 28; (with_reducible refine HG.out.mono ?_); rintro e w1 ⟨rfl, rfl⟩)
    go_ret
    exact ⟨rfl, rfl⟩
def fuelP (x : EpS) : Int := match x.now with
  | none => 0
  | some r => r.fuel
set_option maxHeartbeats 4000000 in
set_option maxRecDepth 100000 in
theorem EpAt.fuel_calls (h : EpAt W g d K x) : Calls Try.prog 18 #[.pointer (some ⟨g, 0, none⟩)] W fun e W' => e = .returned (.int .i64 (fuelP x)) ∧ W = W' := by
  have HB := Aside0.mk h.busy
  obtain ⟨_, c1, f1, hgl⟩ := h.cells
  unfold fuelP
  rcases h.nowc with ⟨hn, hv⟩ | ⟨r, e, hn, hd, hv, hr⟩
  · rw [hn] at HB ⊢
    clear h hn hv
    go_enter Try.func18, Try.ntmps18
    go_wp2_with (go_at_call 19; (with_reducible refine HB.out.mono ?_); rintro e w1 ⟨rfl, rfl⟩)
    go_ret
    exact ⟨rfl, rfl⟩
  · rw [hn] at HB ⊢
    rw [hv] at c1
    have c2 : W.cell? ⟨e.rb, 4, none⟩ = some (.int .i64 r.fuel) := blk_cell hr.box 4
    clear h hn hv hd hr
    go_enter Try.func18, Try.ntmps18
    go_wp2_with (go_at_call 19; (with_reducible refine HB.out.mono ?_); rintro e w1 ⟨rfl, rfl⟩)
    go_ret
    exact ⟨rfl, rfl⟩
def trapP (x : EpS) : Int := match x.now with
  | none => 3
  | some r => if r.tr = true then 0 else 3
set_option maxHeartbeats 4000000 in
set_option maxRecDepth 100000 in
theorem EpAt.trapped_calls (h : EpAt W g d K x) : Calls Try.prog 42 #[.pointer (some ⟨g, 0, none⟩)] W fun e W' => e = .returned (.int .i64 (trapP x)) ∧ W = W' := by
  have HG := Aside0.mk h.given
  obtain ⟨_, c1, f1, hgl⟩ := h.cells
  unfold trapP
  rcases h.nowc with ⟨hn, hv⟩ | ⟨r, e, hn, hd, hv, hr⟩
  · rw [hn]
    rw [hv] at c1
    clear h hn hv
    go_enter Try.func42, Try.ntmps42
    go_wp2_with (go_at_call 28; (with_reducible refine HG.out.mono ?_); rintro e w1 ⟨rfl, rfl⟩)
    go_ret
    exact ⟨rfl, rfl⟩
  · rw [hn]
    rw [hv] at c1
    have c2 : W.cell? ⟨e.rb, 5, none⟩ = some (.bool r.tr) := blk_cell hr.box 5
    clear h hn hv hd hr
    dsimp only
    generalize r.tr = b at *
    cases b with
    | true =>
      go_enter Try.func42, Try.ntmps42
      go_wp2_with (go_at_call 28; (with_reducible refine HG.out.mono ?_); rintro e w1 ⟨rfl, rfl⟩)
      go_ret
      exact ⟨rfl, rfl⟩
    | false =>
      go_enter Try.func42, Try.ntmps42
      go_wp2_with (go_at_call 28; (with_reducible refine HG.out.mono ?_); rintro e w1 ⟨rfl, rfl⟩)
      go_ret
      exact ⟨rfl, rfl⟩
end
end Go.Proofs.Ytkjdhhdkfbkgpaa.VmW
namespace Go.Proofs.Ytkjdhhdkfbkgpaa.VmW
open Go.RowKit Go.Proofs.YtkjdhhdkfbkgpaaW.PrintWords Go.Proofs.YtkjdhhdkfbkgpaaW.PrintMore Go.Proofs.YtkjdhhdkfbkgpaaW.PrintLast Go.Proofs.Ytkjdhhdkfbkgpaa.Pvm
set_option linter.unusedVariables false
set_option linter.unusedSimpArgs false
theorem infoIn : (Try.prog.info? 27).map (fun i => (i.zero, i.size, i.bytes)) = some (some (.agg #[.int .i64 0, .int .i64 0]), kIn.sz, 16) := by kernel_rfl
theorem kIn_KM {w : World} {base : Nat} {ok : Nat → Prop} {i : In} {cs : List Value} (h : kIn.K w i cs) : kIn.M w base ok i cs := by
  obtain rfl := k27_open h
  exact k27_mkM w base ok i
theorem R_empty {α : Type} (d : Kd α) (W : World) (e : Nat) (ok : Nat → Prop) (hok : ok W.heap.size) : d.R e (W.alloc (.cells #[] e)) W.heap.size ok (.slice (some ⟨W.heap.size, 0, none⟩) 0 0) [] :=
  ⟨fun k hk => by
    have : W.heap.size = k := by simpa [Value.ownBlock] using hk
    rw [← this]; exact hok, [], World.ownsRow_made W #[] 0 (Nat.le_refl _) (Nat.zero_le _) (by simp), Reps.none _ _⟩
set_option maxHeartbeats 4000000 in
set_option maxRecDepth 100000 in
theorem icl_calls (W : World) (ad : Addr) (c : Nat) (code : List In) (hC : Kd.C kIn W (some ad) code.length code) (hl : code.length ≤ 1024) : Calls Try.prog 26 #[.slice (some ad) code.length c] W fun e W' => ∃ A' c', e = .returned (.slice A' code.length c') ∧ Kd.R kIn 27 W' W.heap.size (fun k => W.heap.size ≤ k) (.slice A' code.length c') code ∧ Below W.heap.size W W' := by
  have HE := Aside0.mk (R_empty kIn W 27 (fun k => W.heap.size ≤ k) (Nat.le_refl _))
  have HC := Aside0.mk (Kd.C_alloc hC (.cells #[] 27))
  have HB := Aside0.mk (below_alloc (Below.refl W.heap.size W) (.cells #[] 27))
  have HL := Aside0.mk hl
  have q22 : ∀ (w : World) (a : Option Addr) (n c n' c' : Nat), (binOp .eql 28 (.slice a n c) (.slice none n' c')).run Try.prog w = .ok (.bool a.isNone) w := fun w a n c n' c' => Lib.run_eql_slice_nil w _ _ a n c n' c' Try.underlying28
  clear hC hl
  go_enter Try.func26, Try.ntmps26
  go_wp2_with (at_builtin; refine Kd.R_append_rows kIn (w0 := W) W.heap.size rfl (.tmp 5) (.tmp 6) 28 27 (.agg #[.int .i64 0, .int .i64 0]) 16 rfl Try.underlying28 infoIn rfl (by decide) (by decide) (.slice (some ⟨W.heap.size, 0, none⟩) 0 0) [] code (some ad) code.length c (fun k => W.heap.size ≤ k) (fun _ => False) rfl rfl HE.out HC.out (fun _ _ h => kIn_KM h) (fun _ h => h.elim) (fun k hk => by have : W.heap.size ≤ k := Nat.le_trans HB.out.size hk; exact this) HB.out HB.out.size (by have := HL.out; simp; omega) ?_; intro v1 w1 hR hB hG hat; obtain ⟨A1, c1, rfl⟩ := Kd.R_slice hR; have HR := Aside0.mk hR; have HB1 := Aside0.mk hB; clear hR hB hG hat)
  go_ret
  have h1 := HR.out
  rw [List.nil_append] at h1
  exact ⟨A1, c1, rfl, h1, HB1.out⟩
/-- A fresh process. -/
def newX (code : List In) (img : ByteArray) : EpS := ⟨code, (List.range 4096).map (imgAt img), List.replicate 16 false, none⟩
theorem imgAt_byte (img : ByteArray) (a : Nat) : 0 ≤ imgAt img a ∧ imgAt img a ≤ 255 := by
  unfold imgAt
  split
  · rename_i h
    have := (img[a]).toNat_lt
    omega
  · omega
theorem ep_fresh {W W2 : World} {A : Option Addr} {c : Nat} {code : List In} {img : ByteArray} (hk : (chkP code).1 = 0) (hb : Below W.heap.size W W2) (hR : Kd.R kIn 27 W2 W.heap.size (fun k => W.heap.size ≤ k) (.slice A code.length c) code) {W3 : World} (e : W2.alloc (.cells (epCells (.slice A code.length c) img (List.replicate 16 none) (.pointer none)) 67) = W3) :
    ∃ d K, EpAt W3 W2.heap.size d K (newX code img) ∧ Below W.heap.size W W3 ∧ (∀ k, d.F W2.heap.size k → W.heap.size ≤ k) ∧ ∀ k, K k → W.heap.size ≤ k := by
  subst e
  have hv := Kd.V_bound (Kd.R_V (base' := 0) hR)
  refine ⟨⟨List.replicate 16 none, img, A, c, none⟩, fun k => W.heap.size ≤ k ∧ k < W2.heap.size, ⟨⟨heap_alloc_new W2 _, by simp [newX], by simp [newX], by simp, fun k hkk => ?_, fun k q hq => ?_, fun k l q h1 h2 => ?_, fun y hy => ?_⟩, Kd.V_alloc hv _, hk, trivial, fun k hf hK => ?_, fun k hK => by simp; omega⟩, below_alloc hb _, fun k hf => ?_, fun k hK => hK.1⟩
  · have hl := (List.getElem?_eq_some_iff.1 hkk).1
    simp at hl
    refine ⟨by simp only [newX]; rw [List.getElem?_replicate, if_pos hl], fun j hj => ?_⟩
    simp only [newX]
    rw [List.getElem?_map, List.getElem?_range (by omega)]
    rfl
  · have := List.mem_of_getElem? hq
    simp at this
  · have := List.mem_of_getElem? h1
    simp at this
  · simp only [newX, List.mem_map] at hy
    obtain ⟨a, _, rfl⟩ := hy
    exact imgAt_byte img a
  · rcases hf with hf | hf | ⟨r, hr, _⟩
    · omega
    · simp at hf
    · cases hr
  · rcases hf with hf | hf | ⟨r, hr, _⟩
    · rw [hf]; exact hb.size
    · simp at hf
    · cases hr
def NewPost (W : World) (code : List In) (img : ByteArray) (e : Ending) (W' : World) : Prop :=
  (((chkP code).1 ≠ 0 ∧ e = .returned (.tuple #[.pointer none, .int .i64 (chkP code).1])) ∨ ((chkP code).1 = 0 ∧ 4096 < img.size ∧ e = .returned (.tuple #[.pointer none, .int .i64 4])) ∨
    ((chkP code).1 = 0 ∧ img.size ≤ 4096 ∧ ∃ g d K, e = .returned (.tuple #[.pointer (some ⟨g, 0, none⟩), .int .i64 0]) ∧ EpAt W' g d K (newX code img) ∧ (∀ k, d.F g k → W.heap.size ≤ k) ∧ ∀ k, K k → W.heap.size ≤ k)) ∧ Below W.heap.size W W'
set_option maxHeartbeats 4000000 in
set_option maxRecDepth 100000 in
theorem new_calls (W : World) (A : Option Addr) (c : Nat) (code : List In) (hC : Kd.C kIn W A code.length code) (hcap : code.length ≤ c) (img : ByteArray) : Calls Try.prog 8 #[.slice A code.length c, .string img] W (NewPost W code img) := by
  have HC := Aside0.mk (check_calls W A c code hC hcap)
  by_cases hk : (chkP code).1 = 0
  · rw [hk] at HC
    by_cases hs : 4096 < img.size
    · have t0 : decide ((img.size : Int) > 4096) = true := decide_eq_true (by omega)
      have t1 : decide (4096 < (img.size : Int)) = true := decide_eq_true (by omega)
      have t2 : decide (4096 < img.size) = true := decide_eq_true hs
      have HK := Aside0.mk (And.intro hk hs)
      clear hC hk hs
      go_enter Try.func8, Try.ntmps8
      go_wp2_with (go_at_call 25; (with_reducible refine HC.out.mono ?_); rintro e w1 ⟨rfl, hb⟩; have HB := Aside0.mk hb; clear hb)
      go_ret2
      exact ⟨.inr (.inl ⟨HK.out.1, HK.out.2, rfl⟩), HB.out⟩
    · have t0 : decide ((img.size : Int) > 4096) = false := decide_eq_false (by omega)
      have t1 : decide (4096 < (img.size : Int)) = false := decide_eq_false (by omega)
      have t2 : decide (4096 < img.size) = false := decide_eq_false hs
      have hlong := chkP_ok.1 hk
      obtain ⟨b, o, rfl, _, _⟩ := code_at hC (by omega)
      have HCl := Aside0.mk (fun (W2 : World) (hb : Below W.heap.size W W2) => icl_calls W2 ⟨b, o, none⟩ c code (Kd.C_below hC hb) hlong.2.1)
      have HF := Aside0.mk (fun (W2 W3 : World) (hb : Below W.heap.size W W2) (A1 : Option Addr) (c1 : Nat) (hR : Kd.R kIn 27 W3 W2.heap.size (fun k => W2.heap.size ≤ k) (.slice A1 code.length c1) code) (hb2 : Below W2.heap.size W2 W3) => ep_fresh (img := img) hk (below_step hb hb2) (Kd.R_mono (ok' := fun k => W.heap.size ≤ k) (Kd.R_lower hR hb.size) (fun k h => Nat.le_trans hb.size h)) rfl)
      have HK := Aside0.mk (And.intro hk (show img.size ≤ 4096 by omega))
      clear hC hk hs hlong
      go_enter Try.func8, Try.ntmps8
      go_wp2_with (first
        | (go_at_call 25; (with_reducible refine HC.out.mono ?_); rintro e w1 ⟨rfl, hb⟩; have HB := Aside0.mk hb; clear hb)
        | (go_at_call 26; (with_reducible refine (HCl.out _ HB.out).mono ?_); rintro e w2 ⟨A1, c1, rfl, hR, hb⟩; have HF2 := Aside0.mk (HF.out _ _ HB.out A1 c1 hR hb); clear hR hb))
      go_ret2
      obtain ⟨d, K, h1, h2, h3, h4⟩ := HF2.out
      exact ⟨.inr (.inr ⟨HK.out.1, HK.out.2, _, d, K, rfl, h1, h3, h4⟩), h2⟩
  · have d0 : ((chkP code).1 == 0) = false := beq_false_of_ne hk
    have d1 : ((chkP code).1 = 0) = False := eq_false hk
    have HK := Aside0.mk hk
    clear hC hk
    go_enter Try.func8, Try.ntmps8
    go_wp2_with (go_at_call 25; (with_reducible refine HC.out.mono ?_); rintro e w1 ⟨rfl, hb⟩; have HB := Aside0.mk hb; clear hb)
    go_ret2
    exact ⟨.inl ⟨HK.out, rfl⟩, HB.out⟩
end Go.Proofs.Ytkjdhhdkfbkgpaa.VmW
namespace Go.Proofs.Ytkjdhhdkfbkgpaa.VmW
open Go.RowKit Go.Proofs.YtkjdhhdkfbkgpaaW.PrintWords Go.Proofs.YtkjdhhdkfbkgpaaW.PrintMore Go.Proofs.YtkjdhhdkfbkgpaaW.PrintLast Go.Proofs.Ytkjdhhdkfbkgpaa.Pvm
set_option linter.unusedVariables false
set_option linter.unusedSimpArgs false
theorem infoU8 : (Try.prog.info? 5).map (fun i => (i.zero, i.size, i.bytes)) = some (some (.int .u8 0), (Kd.int .u8).sz, 1) := by kernel_rfl
def inP (at_ n : Int) : Prop := 0 ≤ at_ ∧ 0 ≤ n ∧ at_ ≤ 4096 ∧ n ≤ 4096 - at_
instance (at_ n : Int) : Decidable (inP at_ n) := inferInstanceAs (Decidable (_ ∧ _))
set_option maxHeartbeats 4000000 in
set_option maxRecDepth 100000 in
theorem within_calls (at_ n : Int) (W : World) : Calls Try.prog 29 #[.int .i64 at_, .int .i64 n] W fun e W' => e = .returned (.bool (decide (inP at_ n))) ∧ W = W' := by
  by_cases h0 : 0 ≤ at_
  · have a0 : decide (at_ ≥ 0) = true := decide_eq_true h0
    have b0 : decide (0 ≤ at_) = true := decide_eq_true h0
    by_cases h1 : 0 ≤ n
    · have a1 : decide (n ≥ 0) = true := decide_eq_true h1
      have b1 : decide (0 ≤ n) = true := decide_eq_true h1
      by_cases h2 : at_ ≤ 4096
      · have a2 : decide (at_ ≤ 4096) = true := decide_eq_true h2
        have e1 : wrap64 (4096 - at_) = 4096 - at_ := by unfold wrap64; omega
        obtain ⟨b, hb⟩ : ∃ b, decide (n ≤ 4096 - at_) = b := ⟨_, rfl⟩
        have HE := Aside0.mk (show decide (inP at_ n) = b from by rw [← hb]; simp [inP, h0, h1, h2])
        clear h0 h1 h2
        go_enter Try.func29, Try.ntmps29
        cases b with
        | true =>
          go_wp2
          go_ret
          exact ⟨by rw [HE.out]; rfl, rfl⟩
        | false =>
          go_wp2
          go_ret
          exact ⟨by rw [HE.out]; rfl, rfl⟩
      · have a2 : decide (at_ ≤ 4096) = false := decide_eq_false h2
        have HE := Aside0.mk (show decide (inP at_ n) = false from decide_eq_false (fun h => h2 h.2.2.1))
        clear h0 h1 h2
        go_enter Try.func29, Try.ntmps29
        go_wp2
        go_ret
        exact ⟨by rw [HE.out]; rfl, rfl⟩
    · have a1 : decide (n ≥ 0) = false := decide_eq_false h1
      have b1 : decide (0 ≤ n) = false := decide_eq_false h1
      have HE := Aside0.mk (show decide (inP at_ n) = false from decide_eq_false (fun h => h1 h.2.1))
      clear h0 h1
      go_enter Try.func29, Try.ntmps29
      go_wp2
      go_ret
      exact ⟨by rw [HE.out]; rfl, rfl⟩
  · have a0 : decide (at_ ≥ 0) = false := decide_eq_false h0
    have b0 : decide (0 ≤ at_) = false := decide_eq_false h0
    have HE := Aside0.mk (show decide (inP at_ n) = false from decide_eq_false (fun h => h0 h.1))
    clear h0
    go_enter Try.func29, Try.ntmps29
    go_wp2
    go_ret
    exact ⟨by rw [HE.out]; rfl, rfl⟩
def partTo (b : List Int) (a n i : Nat) : List Int := (List.range n).map fun j => if j < i then rd b (a + j : Nat) else 0
theorem partTo_len (b : List Int) (a n i : Nat) : (partTo b a n i).length = n := by simp [partTo]
theorem partTo_step {b : List Int} {a n i : Nat} (hi : i < n) : (partTo b a n i).set i (rd b (a + i : Nat)) = partTo b a n (i + 1) := by
  apply List.ext_getElem?
  intro j
  unfold partTo
  by_cases e : i = j
  · subst e
    rw [List.getElem?_set_self (by simpa using hi), List.getElem?_map, List.getElem?_range hi]
    simp
  · rw [List.getElem?_set_ne e, List.getElem?_map, List.getElem?_map]
    by_cases h : j < n
    · rw [List.getElem?_range h]
      simp only [Option.map_some, Option.some.injEq]
      by_cases h2 : j < i
      · rw [if_pos h2, if_pos (by omega)]
      · rw [if_neg h2, if_neg (by omega)]
    · rw [List.getElem?_eq_none (by simp; omega)]; rfl
theorem partTo_zero (b : List Int) (a n : Nat) : partTo b a n 0 = List.replicate n 0 := by
  apply List.ext_getElem?
  intro j
  unfold partTo
  rw [List.getElem?_map, List.getElem?_replicate]
  by_cases h : j < n
  · rw [List.getElem?_range h, if_pos h]; rfl
  · rw [List.getElem?_eq_none (by simp; omega), if_neg h]; rfl
theorem partTo_all {b : List Int} {a n : Nat} (h : a + n ≤ b.length) : partTo b a n n = (b.drop a).take n := by
  apply List.ext_getElem?
  intro j
  unfold partTo
  rw [List.getElem?_map]
  by_cases hj : j < n
  · rw [List.getElem?_range hj, List.getElem?_take_of_lt hj, List.getElem?_drop, List.getElem?_eq_getElem (by omega)]
    simp only [Option.map_some, Option.some.injEq]
    rw [if_pos hj]
    unfold rd
    rw [Int.toNat_natCast, List.getD_eq_getElem?_getD, List.getElem?_eq_getElem (by omega)]
    rfl
  · rw [List.getElem?_eq_none (by simp; omega), List.getElem?_take_eq_none (by omega)]; rfl
def textP (x : EpS) (at_ n : Int) : ByteArray × Bool := if inP at_ n then (strOfNums ((x.b.drop at_.toNat).take n.toNat), true) else (⟨#[]⟩, false)
section
variable {W W' W2 : World} {g : Nat} {d : EpD} {K : Nat → Prop} {x : EpS}
set_option maxHeartbeats 4000000 in
set_option maxRecDepth 100000 in
theorem EpAt.text_calls (h : EpAt W g d K x) (at_ n : Int) : Calls Try.prog 10 #[.pointer (some ⟨g, 0, none⟩), .int .i64 at_, .int .i64 n] W fun e W' => e = .returned (.tuple #[.string (textP x at_ n).1, .bool (textP x at_ n).2]) ∧ Below W.heap.size W W' := by
  have HG := Aside0.mk h.given
  have HW := Aside0.mk (within_calls at_ n W)
  unfold textP
  by_cases hin : inP at_ n
  · rw [if_pos hin]
    rw [decide_eq_true hin] at HW
    obtain ⟨a, rfl⟩ := Int.eq_ofNat_of_zero_le hin.1
    obtain ⟨m, rfl⟩ := Int.eq_ofNat_of_zero_le hin.2.1
    have hm : a + m ≤ 4096 := by have := hin.2.2; omega
    have HM := Aside0.mk h.mem
    have HA := Aside0.mk hm
    have hml : m ≤ 4096 := by omega
    clear h hin
    go_enter Try.func10, Try.ntmps10
    go_wp2_with (first
      | (go_at_call 28; (with_reducible refine HG.out.mono ?_); rintro e w1 ⟨rfl, rfl⟩)
      | (go_at_call 29; (with_reducible refine HW.out.mono ?_); rintro e w1 ⟨rfl, rfl⟩)
      | ((with_reducible refine gate_dst (N := 20) rfl ?_); refine Kd.R_make (Kd.int .u8) (w0 := W) W.heap.size 5 rfl (N := 20) rfl 37 (.tmp 19) (.tmp 19) rfl (m : Int) rfl rfl Try.underlying37 (.int .u8 0) 1 infoU8 rfl (by decide) (by decide) (0 : Int) (ok := fun k => W.heap.size ≤ k) (okp := fun _ => False) rfl (fun _ h => h.elim) (Nat.le_refl _) (by omega) (by have := hml; simp; omega) (Below.refl _ _) (Nat.le_refl _) ?_; intro v1 w1 hR hB hG hat; obtain ⟨A1, c1, rfl⟩ := Kd.R_slice hR; have HR := Aside0.mk hR; have HB := Aside0.mk hB; clear hR hB hG hat))
    have hr0 := HR.out
    rw [List.length_replicate, Int.toNat_natCast, ← partTo_zero x.b a m] at hr0
    have HR0 := Aside0.mk hr0
    clear HR hr0
    go_loopw [23] (fun t23 wr => ∃ i : Nat, i ≤ m ∧ t23 = .int .i64 (i : Int) ∧ Aside0 (Below W.heap.size W wr) ∧ Aside0 (Kd.R (Kd.int .u8) 5 wr W.heap.size (fun k => W.heap.size ≤ k) (.slice A1 m c1) (partTo x.b a m i))) (fun i _ => m - (intOf i).toNat)
    case atStart => exact ⟨0, Nat.zero_le _, rfl, HB, HR0⟩
    case round =>
      clear HB HR0
      obtain ⟨i, hi, rfl, HB, HR⟩ := hrel
      by_cases hlt : i < m
      · have i1 : (i : Int) < (m : Int) := by omega
        have hal := HA.out
        have e4 : wrap64 ((a : Int) + (i : Int)) = (a : Int) + (i : Int) := by unfold wrap64; omega
        have HLd := Aside0.mk (show Calls Try.prog 30 #[.pointer (some ⟨g, 1, none⟩), .int .i64 ((a : Int) + (i : Int))] wr fun e W' => e = .returned (.tuple #[.int .u8 (rd x.b (a + i : Nat)), .bool true]) ∧ wr = W' from by
          have h1 := load_quiet wr g d.pp _ (HM.out.mv (Mv.of_below HB.out (fun _ => False)) (fun h => h) (fun _ _ h => h)) ((a : Int) + (i : Int))
          unfold memK at h1
          dsimp only at h1
          rw [if_pos (by omega)] at h1
          exact h1)
        obtain ⟨g1, cap, he, _⟩ := Kd.R_form HR.out (by rw [partTo_len]; omega)
        rw [partTo_len] at he
        injection he with he _ he2
        subst he he2
        obtain ⟨c0, f0⟩ := Kd.R_celln (0 : Int) HR.out (i : Int) (by omega) i1
        have hput := Kd.R_putn HR.out (i : Int) (rd x.b (a + i : Nat))
        rw [Int.toNat_natCast] at c0 f0 hput
        rw [partTo_step hlt] at hput
        have hbase : W.heap.size ≤ g1 := Kd.R_base HR.out g1 rfl
        have HP := Aside0.mk hput
        have HB2 := Aside0.mk (HB.out.setCell (p := ⟨g1, i, none⟩) hbase (.int .u8 (rd x.b (a + i : Nat))))
        clear hput hbase hal
        go_wp2_with (go_at_call 30; (with_reducible refine HLd.out.mono ?_); rintro e w2 ⟨rfl, rfl⟩)
        exact ⟨⟨i + 1, by omega, by go_num, HB2, HP⟩, by simp [intOf]; omega⟩
      · obtain rfl : i = m := by omega
        have i1 : ¬ ((i : Int) < (i : Int)) := by omega
        have hlb : x.b.length = 4096 := HM.out.lb
        have hrow := HR.out
        rw [partTo_all (by have := HA.out; omega)] at hrow
        obtain ⟨hlen, _, hC⟩ := Kd.R_reads' hrow
        rw [← hlen] at hC
        have hconv := Kd.C_string (P := Try.prog) (c := c1) Try.underlying37 Try.underlying5 Try.underlying9 hC
        clear hrow hlen hC hlb
        go_wp2
        go_ret2
        exact ⟨rfl, HB.out⟩
  · rw [if_neg hin]
    rw [decide_eq_false hin] at HW
    clear h hin
    go_enter Try.func10, Try.ntmps10
    go_wp2_with (first
      | (go_at_call 28; (with_reducible refine HG.out.mono ?_); rintro e w1 ⟨rfl, rfl⟩)
      | (go_at_call 29; (with_reducible refine HW.out.mono ?_); rintro e w1 ⟨rfl, rfl⟩))
    go_ret2
    exact ⟨rfl, Below.refl _ _⟩
end
end Go.Proofs.Ytkjdhhdkfbkgpaa.VmW
namespace Go.Proofs.Ytkjdhhdkfbkgpaa.VmW
open Go.RowKit Go.Proofs.YtkjdhhdkfbkgpaaW.PrintWords Go.Proofs.YtkjdhhdkfbkgpaaW.PrintMore Go.Proofs.YtkjdhhdkfbkgpaaW.PrintLast Go.Proofs.Ytkjdhhdkfbkgpaa.Pvm
set_option linter.unusedVariables false
set_option linter.unusedSimpArgs false
section
variable {M : Type} (Km : MemK M)
theorem ite_indE {α : Type} {P : α → Prop} {c : Prop} [Decidable c] {a b : α} (h1 : c → P a) (h2 : ¬ c → P b) : P (if c then a else b) := by
  by_cases h : c
  · rw [if_pos h]; exact h1 h
  · rw [if_neg h]; exact h2 h
theorem opP_inv {Q : M → Prop} (hl : ∀ m a, Q m → Q (Km.load m a).1) (hs : ∀ m a v, Q m → Q (Km.store m a v).1) {op a : Int} {s : St} {m : M} (h : Q m) : Q (opP Km op a s m).2.1 := by
  unfold opP
  repeat' (refine ite_indE (P := fun r : St × M × Int × Int => Q r.2.1) (fun h_ => ?_) (fun h_ => ?_))
  all_goals first
    | exact h
    | exact hl _ _ h
    | exact hs _ _ _ h
theorem stepP_inv {Q : M → Prop} (hl : ∀ m a, Q m → Q (Km.load m a).1) (hs : ∀ m a v, Q m → Q (Km.store m a v).1) {code : List In} {s : St} {m : M} (h : Q m) : Q (stepP Km code s m).2.1 := by
  unfold stepP
  refine ite_indE (P := fun r : St × M × Int × Int => Q r.2.1) (fun _ => h) (fun _ => ite_indE (P := fun r : St × M × Int × Int => Q r.2.1) (fun _ => h) (fun _ => opP_inv Km hl hs h))
theorem runP_inv {Q : M → Prop} (hl : ∀ m a, Q m → Q (Km.load m a).1) (hs : ∀ m a v, Q m → Q (Km.store m a v).1) {code : List In} : ∀ (k u : Nat) (s : St) (m : M), Q m → Q (runP Km code k u s m).2.1
  | 0, u, s, m, h => h
  | k + 1, u, s, m, h => by
    unfold runP
    exact ite_indE (P := fun r : St × M × Int × Int × Int => Q r.2.1) (fun _ => runP_inv hl hs k _ _ _ (stepP_inv Km hl hs h)) (fun _ => stepP_inv Km hl hs h)
theorem runP_mayE {code : List In} (hc : ∀ i ∈ code, okI i code.length = true) : ∀ (k u : Nat) (s : St) (m : M), mayP s code.length → mayP (runP Km code k u s m).1 code.length
  | 0, u, s, m, h => h
  | k + 1, u, s, m, h => by
    unfold runP
    exact ite_indE (P := fun r : St × M × Int × Int × Int => mayP r.1 code.length) (fun _ => runP_mayE hc k _ _ _ (stepP_may Km h hc)) (fun _ => stepP_may Km h hc)
theorem runP_cnt {code : List In} : ∀ (k u : Nat) (s : St) (m : M), (u : Int) ≤ (runP Km code k u s m).2.2.2.2 ∧ (runP Km code k u s m).2.2.2.2 ≤ ((u + k : Nat) : Int)
  | 0, u, s, m => ⟨Int.le_refl _, Int.le_refl _⟩
  | k + 1, u, s, m => by
    unfold runP
    refine ite_indE (P := fun r : St × M × Int × Int × Int => (u : Int) ≤ r.2.2.2.2 ∧ r.2.2.2.2 ≤ ((u + (k + 1) : Nat) : Int)) (fun _ => ?_) (fun _ => ⟨by show (u : Int) ≤ ((u + 1 : Nat) : Int); omega, by show ((u + 1 : Nat) : Int) ≤ _; omega⟩)
    have := runP_cnt (code := code) k (u + 1) (stepP Km code s m).1 (stepP Km code s m).2.1
    constructor
    · exact Int.le_trans (by omega) this.1
    · exact Int.le_trans this.2 (by omega)
end
/-- A run, where all may be. -/
structure RanTo (code : List In) (n : Int) (m : Mem) (R : Res) : Prop where
  err : R.err = 0
  may : mayP R.s code.length
  u0 : 0 ≤ R.used
  u1 : R.used ≤ n
  hdr : R.m.hdr = m.hdr
  img : R.m.img = m.img
  now : R.m.now = m.now
theorem ran_to {code : List In} {s : St} {m : Mem} {n : Int} (hk : (chkP code).1 = 0) (hs : mayP s code.length) (h0 : 0 ≤ n) (h1 : n ≤ 1048576) : RanTo code n m (runAll code s m n) := by
  have hc := (chkP_ok.1 hk).2.2
  have e : runAll code s m n = ⟨(runP memK code n.toNat 0 s m).1, (runP memK code n.toNat 0 s m).2.1, (runP memK code n.toNat 0 s m).2.2.1, (runP memK code n.toNat 0 s m).2.2.2.1, (runP memK code n.toNat 0 s m).2.2.2.2, 0⟩ := by
    unfold runAll
    rw [if_neg (by simpa using hk), if_neg (fun h => h.elim (fun h => by omega) (fun h => h.elim (fun h => by omega) (fun h => h hs)))]
  rw [e]
  have hu := runP_cnt memK (code := code) n.toNat 0 s m
  have hq := runP_inv memK (code := code) (Q := fun r : Mem => r.hdr = m.hdr ∧ r.img = m.img ∧ r.now = m.now) (fun r a h => h) (fun r a v h => by
    unfold memK
    dsimp only
    split <;> exact h) n.toNat 0 s m ⟨rfl, rfl, rfl⟩
  exact ⟨rfl, runP_mayE memK hc _ _ _ _ hs, by have := hu.1; show 0 ≤ (runP memK code n.toNat 0 s m).2.2.2.2; omega, by have := hu.2; show (runP memK code n.toNat 0 s m).2.2.2.2 ≤ n; omega, hq.1, hq.2.1, hq.2.2⟩
section
variable {W0 W W' W2 : World} {g : Nat} {d : EpD} {K K0 F0 : Nat → Prop} {x : EpS}
theorem EpAt.flt (h : EpAt W g d K x) : ∀ k, d.F g k → k < W.heap.size := by
  rintro k (hk | hk | ⟨r, hr, hk⟩)
  · rw [hk]; exact blk_lt h.mem.box
  · obtain ⟨l, hl⟩ := List.getElem?_of_mem hk
    exact blk_lt (h.mem.yes l _ hl).2.1
  · rcases h.nowc with ⟨_, hv⟩ | ⟨r', e, _, hd, _, hq⟩
    · rw [hr] at hv; cases hv
    · rw [hd] at hr
      obtain rfl := Option.some.inj hr
      rw [hk]; exact blk_lt hq.box
/-- The request is turned. -/
theorem EpAt.rqset (h : EpAt W g d K x) {r r' : Rq} {e e' : RqD} (hx : x.now = some r) (hd : d.rq = some e) (hm : Mv W W' (fun k => k = e.rb)) (hrb : e'.rb = e.rb) (hb : W'.heap[e.rb]? = some (.cells (rqCells e' r') 91 (0, 0)))
    (hst : Kd.V (Kd.int .i64) 3 W 0 K (.slice e'.A1 r'.s.st.length e'.c1) r'.s.st) (hca : Kd.V (Kd.int .i64) 3 W 0 K (.slice e'.A2 r'.s.ca.length e'.c2) r'.s.ca) (hmay : mayP r'.s x.code.length) (hfu : 0 ≤ r'.fuel ∧ r'.fuel ≤ 1048576) : EpAt W' g ⟨d.pp, d.img, d.A, d.c, some e'⟩ K ⟨x.code, x.b, x.o, some r'⟩ := by
  have hq : RqAt W g d.pp K x.code.length e r := by
    have := h.now
    rw [hx, hd] at this
    exact this
  have hF : d.F g e.rb := .inr (.inr ⟨e, hd, rfl⟩)
  have hkn : ∀ k, K k → ¬ k = e.rb := fun k hk e1 => h.apart e.rb hF (e1 ▸ hk)
  refine ⟨?_, Kd.V_step h.code (fun k hk hlt => hm.block k hlt (hkn k hk)), h.chk, ⟨by rw [hrb]; exact hb, Kd.V_step hst (fun k hk hlt => hm.block k hlt (hkn k hk)), Kd.V_step hca (fun k hk hlt => hm.block k hlt (hkn k hk)), by rw [hrb]; exact hq.ne, by rw [hrb]; exact hq.np, hmay, hfu⟩, ?_, fun k hk => Nat.lt_of_lt_of_le (h.kb k hk) hm.size⟩
  · have h1 := h.mem.mv hm (fun e1 => hq.ne e1.symm) (fun k hk e1 => hq.np (e1 ▸ hk))
    rw [hd] at h1
    show MemAt W' g d.pp ⟨x.b, x.o, .slice d.A x.code.length d.c, d.img, nowV (some e')⟩
    rw [show nowV (some e') = nowV (some e) from by show Value.pointer (some ⟨e'.rb, 0, none⟩) = Value.pointer (some ⟨e.rb, 0, none⟩); rw [hrb]]
    exact h1
  · rintro k (hk | hk | ⟨r2, hr2, hk⟩) hK
    · exact h.apart k (.inl hk) hK
    · exact h.apart k (.inr (.inl hk)) hK
    · obtain rfl := Option.some.inj hr2
      exact h.apart k (.inr (.inr ⟨e, hd, by rw [hk, hrb]⟩)) hK
/-- The request is ended. -/
theorem EpAt.clear (h : EpAt W g d K x) : EpAt (W.setCell ⟨g, 18, none⟩ (.pointer none)) g ⟨d.pp, d.img, d.A, d.c, none⟩ K ⟨x.code, x.b, x.o, none⟩ := by
  have hm := h.mem
  have hkn : ∀ k, K k → k ≠ g := fun k hk e => h.apart g (.inl rfl) (e ▸ hk)
  refine ⟨⟨?_, hm.lb, hm.lo, hm.lp, hm.no, fun k q hq => ⟨(hm.yes k q hq).1, blk_far (p := ⟨g, 18, none⟩) (hm.yes k q hq).2.1 (hm.yes k q hq).2.2 _, (hm.yes k q hq).2.2⟩, hm.inj, hm.byt⟩, Kd.V_far h.code (p := ⟨g, 18, none⟩) hkn _, h.chk, trivial, ?_, fun k hk => by have := h.kb k hk; simpa [World.setCell] using this⟩
  · refine (blk_set hm.box 18 _).trans ?_
    show some (Obj.cells ((epCells _ _ _ _).setIfInBounds 18 _) _ _) = _
    rw [epCells_now _ _ _ _ hm.lp]
    rfl
  · rintro k (hk | hk | ⟨r2, hr2, hk⟩) hK
    · exact h.apart k (.inl hk) hK
    · exact h.apart k (.inr (.inl hk)) hK
    · cases hr2
end
end Go.Proofs.Ytkjdhhdkfbkgpaa.VmW
namespace Go.Proofs.Ytkjdhhdkfbkgpaa.VmW
open Go.RowKit Go.Proofs.YtkjdhhdkfbkgpaaW.PrintWords Go.Proofs.YtkjdhhdkfbkgpaaW.PrintMore Go.Proofs.YtkjdhhdkfbkgpaaW.PrintLast Go.Proofs.Ytkjdhhdkfbkgpaa.Pvm
set_option linter.unusedVariables false
set_option linter.unusedSimpArgs false
/-- A row that is read lies where its footprint says. -/
theorem V_in {α : Type} {dd : Kd α} {e base : Nat} {W : World} {K : Nat → Prop} {ad : Addr} {n c : Nat} {xs : List α} (h : Kd.V dd e W base K (.slice (some ad) n c) xs) (hn : 0 < n) (hs : 0 < dd.sz) : K ad.block := by
  have he := (Kd.V_at h).1
  exact Kd.F_in (Kd.V_at h).2.2 rfl (by omega) hs
section
variable {W0 W W' W2 : World} {g : Nat} {d : EpD} {K K0 F0 : Nat → Prop} {x : EpS}
def memO (x : EpS) (d : EpD) : Mem := ⟨x.b, x.o, .slice d.A x.code.length d.c, d.img, nowV d.rq⟩
/-- Behind the machine's run. -/
def VmPost (W : World) (g : Nat) (d : EpD) (K : Nat → Prop) (x : EpS) (R : Res) (E : Ending) (W' : World) : Prop := ∃ B1 d1 B2 d2 pp' K', E = .returned (.tuple #[.agg #[.int .i64 R.s.pc, .slice B1 R.s.st.length d1, .slice B2 R.s.ca.length d2], .agg #[.int .i64 R.kind, .int .i64 R.trap, .int .i64 R.used], .int .i64 0]) ∧
  EpAt W' g ⟨pp', d.img, d.A, d.c, d.rq⟩ K' ⟨x.code, R.m.b, R.m.o, x.now⟩ ∧ Kd.V (Kd.int .i64) 3 W' 0 K' (.slice B1 R.s.st.length d1) R.s.st ∧ Kd.V (Kd.int .i64) 3 W' 0 K' (.slice B2 R.s.ca.length d2) R.s.ca ∧
  Mv W W' (d.F g) ∧ (∀ k, EpD.F ⟨pp', d.img, d.A, d.c, d.rq⟩ g k → d.F g k ∨ W.heap.size ≤ k) ∧ ∀ k, K' k → K k ∨ W.heap.size ≤ k
theorem EpAt.run_vm (h : EpAt W g d K x) {r : Rq} {e : RqD} (hx : x.now = some r) (hd : d.rq = some e) {n : Int} (h0 : 0 ≤ n) (h1 : n ≤ 1048576) {R : Res} (hR : runAll x.code r.s (memO x d) n = R) :
    Calls Try.prog 40 #[.slice d.A x.code.length d.c, .agg #[.int .i64 r.s.pc, .slice e.A1 r.s.st.length e.c1, .slice e.A2 r.s.ca.length e.c2], .iface 94 (.pointer (some ⟨g, 1, none⟩)), .int .i64 n] W (VmPost W g d K x R) := by
  have hq : RqAt W g d.pp K x.code.length e r := by
    have := h.now
    rw [hx, hd] at this
    exact this
  have hl := h.long
  obtain ⟨_, hc1, hc2⟩ := Kd.V_reads' h.code
  have hm : MemP W (.pointer (some ⟨g, 1, none⟩)) (fun k => k = g ∨ some k ∈ d.pp) (memO x d) := ⟨g, d.pp, rfl, h.mem, fun k => Iff.rfl⟩
  have hfF : ∀ k, (k = g ∨ some k ∈ d.pp) → d.F g k := fun k hk => hk.elim .inl (fun hk => .inr (.inl hk))
  have hrun := run_calls W d.A d.c x.code hc2 hc1 r.s e.A1 e.A2 e.c1 e.c2 (Kd.V_reads' hq.st).2.2 (Kd.V_reads' hq.ca).2.2 (.pointer (some ⟨g, 1, none⟩)) _ _ hm (fun ad ha hp hf => by
    have hv := h.code
    rw [ha] at hv
    exact h.apart _ (hfF _ hf) (V_in hv hp (by decide))) n
  have hto := ran_to (m := memO x d) h.chk hq.may h0 h1
  rw [hR] at hrun hto
  refine hrun.mono ?_
  rintro E W' ⟨B1, d1, B2, d2, f', he, ho1, ho2, hne, ⟨g', pp', hp, hma, hf'⟩, hmv, hff, hfo⟩
  obtain rfl : g = g' := by
    injection hp with hp; injection hp with hp; injection hp
  rw [hto.err] at he
  have hk1 : ∀ k, K k → ¬ (k = g ∨ some k ∈ d.pp) := fun k hk hf => h.apart k (hfF k hf) hk
  have hrb : ¬ (e.rb = g ∨ some e.rb ∈ d.pp) := fun hf => hf.elim hq.ne hq.np
  have hrbl := blk_lt hq.box
  have v1 := Kd.R_V (base' := 0) (Kd.R_of_own (enc := Value.int .i64) (h1 := fun _ => rfl) (ok := fun k => (Value.slice B1 R.s.st.length d1).ownBlock = some k) ho1 (fun k hk => hk))
  have v2 := Kd.R_V (base' := 0) (Kd.R_of_own (enc := Value.int .i64) (h1 := fun _ => rfl) (ok := fun k => (Value.slice B2 R.s.ca.length d2).ownBlock = some k) ho2 (fun k hk => hk))
  have n1 := own_lt ho1
  have n2 := own_lt ho2
  have b1 : ∀ k, (Value.slice B1 R.s.st.length d1).ownBlock = some k → W.heap.size ≤ k := fun k hk => own_base ho1 k hk
  have b2 : ∀ k, (Value.slice B2 R.s.ca.length d2).ownBlock = some k → W.heap.size ≤ k := fun k hk => own_base ho2 k hk
  have hpp : ∀ k, some k ∈ pp' → f' k := fun k hk => (hf' k).2 (.inr hk)
  have hf0 := fun k (hk : f' k) => hff k hk
  refine ⟨B1, d1, B2, d2, pp', fun k => K k ∨ (Value.slice B1 R.s.st.length d1).ownBlock = some k ∨ (Value.slice B2 R.s.ca.length d2).ownBlock = some k, he, ⟨?_, Kd.V_mono (Kd.V_step h.code (fun k hk hlt => hmv.block k hlt (hk1 k hk))) (fun k hk => .inl hk), h.chk, ?_, ?_, ?_⟩, Kd.V_mono v1 (fun k hk => .inr (.inl hk)), Kd.V_mono v2 (fun k hk => .inr (.inr hk)), hmv.mono (fun k hk => .inl (hfF k hk)), ?_, ?_⟩
  · have h5 := hma
    have e5 : R.m = ⟨R.m.b, R.m.o, .slice d.A x.code.length d.c, d.img, nowV d.rq⟩ := by
      have e1 := hto.hdr
      have e2 := hto.img
      have e3 := hto.now
      cases hRm : R.m with
      | mk b o hd im nw =>
        rw [hRm] at e1 e2 e3
        dsimp only at e1 e2 e3
        subst e1 e2 e3
        rfl
    rw [e5] at h5
    exact h5
  · show NowAt W' g pp' _ x.code.length d.rq x.now
    rw [hx, hd]
    refine ⟨(hmv.block _ hrbl hrb).trans hq.box, Kd.V_mono (Kd.V_step hq.st (fun k hk hlt => hmv.block k hlt (hk1 k hk))) (fun k hk => .inl hk), Kd.V_mono (Kd.V_step hq.ca (fun k hk hlt => hmv.block k hlt (hk1 k hk))) (fun k hk => .inl hk), hq.ne, fun hin => ?_, hq.may, hq.fu⟩
    rcases hf0 _ (hpp _ hin) with h6 | h6
    · exact hrb h6
    · omega
  · rintro k (hk | hk | ⟨r2, hr2, hk⟩) hK
    · have hk : k = g := hk
      have hfk : f' k := (hf' k).2 (.inl hk)
      rcases hK with hK | hK | hK
      · exact hk1 k hK (.inl hk)
      · exact (hfo k hfk).1 hK
      · exact (hfo k hfk).2 hK
    · have hfk : f' k := hpp k hk
      rcases hK with hK | hK | hK
      · rcases hf0 k hfk with h6 | h6
        · exact hk1 k hK h6
        · have := h.kb k hK; omega
      · exact (hfo k hfk).1 hK
      · exact (hfo k hfk).2 hK
    · have hr2 : d.rq = some r2 := hr2
      rw [hd] at hr2
      obtain rfl := Option.some.inj hr2
      rcases hK with hK | hK | hK
      · exact h.apart k (.inr (.inr ⟨e, hd, hk⟩)) hK
      · have := b1 k hK; omega
      · have := b2 k hK; omega
  · rintro k (hK | hK | hK)
    · exact Nat.lt_of_lt_of_le (h.kb k hK) hmv.size
    · exact n1 k hK
    · exact n2 k hK
  · rintro k (hk | hk | ⟨r2, hr2, hk⟩)
    · exact .inl (.inl hk)
    · exact (hf0 k (hpp k hk)).elim (fun h6 => .inl (hfF k h6)) .inr
    · exact .inl (.inr (.inr ⟨r2, hr2, hk⟩))
  · rintro k (hK | hK | hK)
    · exact .inl hK
    · exact .inr (b1 k hK)
    · exact .inr (b2 k hK)
end
end Go.Proofs.Ytkjdhhdkfbkgpaa.VmW
namespace Go.Proofs.Ytkjdhhdkfbkgpaa.VmW
open Go.RowKit Go.Proofs.YtkjdhhdkfbkgpaaW.PrintWords Go.Proofs.YtkjdhhdkfbkgpaaW.PrintMore Go.Proofs.YtkjdhhdkfbkgpaaW.PrintLast Go.Proofs.Ytkjdhhdkfbkgpaa.Pvm
set_option linter.unusedVariables false
set_option linter.unusedSimpArgs false
abbrev BxE := Nat × Array Value × TypeId
/-- A call on an event process, under way: the process, boxes of the call's own. -/
structure RN (W0 W : World) (F0 K0 : Nat → Prop) (g : Nat) (d : EpD) (K : Nat → Prop) (x : EpS) (bs : List BxE) : Prop where
  ep : EpAt W g d K x
  mv : Mv W0 W F0
  f0 : ∀ k, F0 k → k < W0.heap.size
  fo : ∀ k, d.F g k → F0 k ∨ W0.heap.size ≤ k
  ko : ∀ k, K k → K0 k ∨ W0.heap.size ≤ k
  bx : ∀ b ∈ bs, W.heap[b.1]? = some (.cells b.2.1 b.2.2 (0, 0)) ∧ W0.heap.size ≤ b.1 ∧ ¬ d.F g b.1 ∧ ¬ K b.1
  nd : (bs.map (·.1)).Nodup
section
variable {W0 W W' W2 : World} {g : Nat} {d : EpD} {K K0 F0 : Nat → Prop} {x : EpS} {bs : List BxE}
theorem RN.start (h : EpAt W g d K x) : RN W W (d.F g) K g d K x [] := ⟨h, Mv.refl _ _, h.flt, fun k hk => .inl hk, fun k hk => .inl hk, fun b hb => (by cases hb), List.nodup_nil⟩
theorem RN.step (h : RN W0 W F0 K0 g d K x bs) (hb : Below W.heap.size W W') : RN W0 W' F0 K0 g d K x bs :=
  ⟨h.ep.step hb, h.mv.trans (Mv.of_below hb (fun _ => False)) (fun _ e => e.elim), h.f0, h.fo, h.ko, fun b hm => ⟨blk_below (h.bx b hm).1 hb, (h.bx b hm).2⟩, h.nd⟩
theorem RN.box (h : RN W0 W F0 K0 g d K x bs) {b : BxE} (hm : b ∈ bs) : W.heap[b.1]? = some (.cells b.2.1 b.2.2 (0, 0)) := (h.bx b hm).1
theorem RN.boxed (h : RN W0 W F0 K0 g d K x bs) (cs : Array Value) (t : TypeId) (e : W.alloc (.cells cs t) = W') : RN W0 W' F0 K0 g d K x ((W.heap.size, cs, t) :: bs) := by
  subst e
  have h2 := h.step (below_alloc (Below.refl W.heap.size W) (.cells cs t))
  refine ⟨h2.ep, h2.mv, h2.f0, h2.fo, h2.ko, fun b hm => ?_, ?_⟩
  · rcases List.mem_cons.1 hm with rfl | hm
    · exact ⟨heap_alloc_new W _, h.mv.size, fun hf => by have := h.ep.flt _ hf; exact absurd this (Nat.lt_irrefl _), fun hk => by have := h.ep.kb _ hk; exact absurd this (Nat.lt_irrefl _)⟩
    · exact h2.bx b hm
  · rw [List.map_cons, List.nodup_cons]
    refine ⟨fun hm => ?_, h.nd⟩
    obtain ⟨b, hb1, hb2⟩ := List.mem_map.1 hm
    have := blk_lt (h.bx b hb1).1
    have hb2 : b.1 = W.heap.size := hb2
    omega
theorem RN.sub (h : RN W0 W F0 K0 g d K x bs) (bs' : List BxE) (h1 : ∀ b ∈ bs', b ∈ bs) (h2 : (bs'.map (·.1)).Nodup) : RN W0 W F0 K0 g d K x bs' := ⟨h.ep, h.mv, h.f0, h.fo, h.ko, fun b hm => h.bx b (h1 b hm), h2⟩
/-- A store of three cells into the first box. -/
theorem RN.set3 {n : Nat} {t : TypeId} {a b c : Value} (h : RN W0 W F0 K0 g d K x ((n, #[a, b, c], t) :: bs)) (u v w : Value) : RN W0 (((W.setCell ⟨n, 0, none⟩ u).setCell ⟨n, 1, none⟩ v).setCell ⟨n, 2, none⟩ w) F0 K0 g d K x ((n, #[u, v, w], t) :: bs) := by
  have hnd := h.nd
  rw [List.map_cons, List.nodup_cons] at hnd
  obtain ⟨h1, h2, h3, h4⟩ := h.bx _ List.mem_cons_self
  have h1 : W.heap[n]? = some (.cells #[a, b, c] t (0, 0)) := h1
  have h2 : W0.heap.size ≤ n := h2
  have hm : Mv W (((W.setCell ⟨n, 0, none⟩ u).setCell ⟨n, 1, none⟩ v).setCell ⟨n, 2, none⟩ w) (fun k => k = n) := Mv.set (S := fun k => k = n) (Mv.set (S := fun k => k = n) (Mv.set (S := fun k => k = n) (Mv.refl _ _) (p := ⟨n, 0, none⟩) (.inl rfl) _) (p := ⟨n, 1, none⟩) (.inl rfl) _) (p := ⟨n, 2, none⟩) (.inl rfl) _
  refine ⟨h.ep.mv hm (fun k hk e => h3 (e ▸ hk)) (fun k hk e => h4 (e ▸ hk)), h.mv.trans hm (fun k e => .inr (by rw [e]; exact h2)), h.f0, h.fo, h.ko, fun y hy => ?_, by rw [List.map_cons, List.nodup_cons]; exact hnd⟩
  rcases List.mem_cons.1 hy with rfl | hy
  · exact ⟨blk_set (blk_set (blk_set h1 0 _) 1 _) 2 _, h2, h3, h4⟩
  · obtain ⟨g1, g2⟩ := h.bx y (List.mem_cons_of_mem _ hy)
    exact ⟨hm.blk g1 (fun e => hnd.1 (List.mem_map.2 ⟨y, hy, e⟩)), g2⟩
/-- The request is turned. -/
theorem RN.rq (h : RN W0 W F0 K0 g d K x bs) {r r' : Rq} {e e' : RqD} (hx : x.now = some r) (hd : d.rq = some e) (hm : Mv W W' (fun k => k = e.rb)) (hrb : e'.rb = e.rb) (hb : W'.heap[e.rb]? = some (.cells (rqCells e' r') 91 (0, 0)))
    (hst : Kd.V (Kd.int .i64) 3 W 0 K (.slice e'.A1 r'.s.st.length e'.c1) r'.s.st) (hca : Kd.V (Kd.int .i64) 3 W 0 K (.slice e'.A2 r'.s.ca.length e'.c2) r'.s.ca) (hmay : mayP r'.s x.code.length) (hfu : 0 ≤ r'.fuel ∧ r'.fuel ≤ 1048576) : RN W0 W' F0 K0 g ⟨d.pp, d.img, d.A, d.c, some e'⟩ K ⟨x.code, x.b, x.o, some r'⟩ bs := by
  have hF : d.F g e.rb := .inr (.inr ⟨e, hd, rfl⟩)
  have hFF : ∀ k, EpD.F ⟨d.pp, d.img, d.A, d.c, some e'⟩ g k → d.F g k := by
    rintro k (hk | hk | ⟨r2, hr2, hk⟩)
    · exact .inl hk
    · exact .inr (.inl hk)
    · obtain rfl := Option.some.inj hr2
      exact .inr (.inr ⟨e, hd, by rw [hk, hrb]⟩)
  exact ⟨h.ep.rqset hx hd hm hrb hb hst hca hmay hfu, h.mv.trans hm (fun k e1 => by rw [e1]; exact h.fo _ hF), h.f0, fun k hk => h.fo k (hFF k hk), h.ko, fun b hb => ⟨hm.blk (h.bx b hb).1 (fun e1 => (h.bx b hb).2.2.1 (by rw [e1]; exact hF)), (h.bx b hb).2.1, fun hf => (h.bx b hb).2.2.1 (hFF _ hf), (h.bx b hb).2.2.2⟩, h.nd⟩
theorem RN.clear (h : RN W0 W F0 K0 g d K x bs) : RN W0 (W.setCell ⟨g, 18, none⟩ (.pointer none)) F0 K0 g ⟨d.pp, d.img, d.A, d.c, none⟩ K ⟨x.code, x.b, x.o, none⟩ bs := by
  have hm : Mv W (W.setCell ⟨g, 18, none⟩ (.pointer none)) (fun k => k = g) := Mv.set (S := fun k => k = g) (Mv.refl _ _) (p := ⟨g, 18, none⟩) (.inl rfl) _
  have hFF : ∀ k, EpD.F ⟨d.pp, d.img, d.A, d.c, none⟩ g k → d.F g k := by
    rintro k (hk | hk | ⟨r2, hr2, hk⟩)
    · exact .inl hk
    · exact .inr (.inl hk)
    · cases hr2
  exact ⟨h.ep.clear, h.mv.trans hm (fun k e1 => by rw [e1]; exact h.fo _ (.inl rfl)), h.f0, fun k hk => h.fo k (hFF k hk), h.ko, fun b hb => ⟨hm.blk (h.bx b hb).1 (fun e1 => (h.bx b hb).2.2.1 (.inl e1)), (h.bx b hb).2.1, fun hf => (h.bx b hb).2.2.1 (hFF _ hf), (h.bx b hb).2.2.2⟩, h.nd⟩
/-- The machine's run. -/
theorem RN.run (h : RN W0 W F0 K0 g d K x bs) {r : Rq} {e : RqD} (hx : x.now = some r) (hd : d.rq = some e) {n : Int} (h0 : 0 ≤ n) (h1 : n ≤ 1048576) {R : Res} (hR : runAll x.code r.s (memO x d) n = R) :
    Calls Try.prog 40 #[.slice d.A x.code.length d.c, .agg #[.int .i64 r.s.pc, .slice e.A1 r.s.st.length e.c1, .slice e.A2 r.s.ca.length e.c2], .iface 94 (.pointer (some ⟨g, 1, none⟩)), .int .i64 n] W fun E W' => ∃ B1 d1 B2 d2 pp' K', E = .returned (.tuple #[.agg #[.int .i64 R.s.pc, .slice B1 R.s.st.length d1, .slice B2 R.s.ca.length d2], .agg #[.int .i64 R.kind, .int .i64 R.trap, .int .i64 R.used], .int .i64 0]) ∧
      RN W0 W' F0 K0 g ⟨pp', d.img, d.A, d.c, d.rq⟩ K' ⟨x.code, R.m.b, R.m.o, x.now⟩ bs ∧ Kd.V (Kd.int .i64) 3 W' 0 K' (.slice B1 R.s.st.length d1) R.s.st ∧ Kd.V (Kd.int .i64) 3 W' 0 K' (.slice B2 R.s.ca.length d2) R.s.ca := by
  refine (h.ep.run_vm hx hd h0 h1 hR).mono ?_
  rintro E W' ⟨B1, d1, B2, d2, pp', K', he, hep, hv1, hv2, hm, hf, hk⟩
  have hlt : ∀ b ∈ bs, b.1 < W.heap.size := fun b hb => blk_lt (h.bx b hb).1
  refine ⟨B1, d1, B2, d2, pp', K', he, ⟨hep, h.mv.trans hm (fun k e1 => h.fo k e1), h.f0, fun k e1 => ?_, fun k e1 => ?_, fun b hb => ⟨hm.blk (h.bx b hb).1 (h.bx b hb).2.2.1, (h.bx b hb).2.1, fun e1 => ?_, fun e1 => ?_⟩, h.nd⟩, hv1, hv2⟩
  · rcases hf k e1 with h5 | h5
    · exact h.fo k h5
    · exact .inr (Nat.le_trans h.mv.size h5)
  · rcases hk k e1 with h5 | h5
    · exact h.ko k h5
    · exact .inr (Nat.le_trans h.mv.size h5)
  · rcases hf _ e1 with h5 | h5
    · exact (h.bx b hb).2.2.1 h5
    · have := hlt b hb; omega
  · rcases hk _ e1 with h5 | h5
    · exact (h.bx b hb).2.2.2 h5
    · have := hlt b hb; omega
theorem EpAt.vst (h : EpAt W g d K x) {r : Rq} {e : RqD} (hx : x.now = some r) (hd : d.rq = some e) : Kd.V (Kd.int .i64) 3 W 0 K (.slice e.A1 r.s.st.length e.c1) r.s.st := by
  have hn := h.now
  rw [hx, hd] at hn
  exact RqAt.st hn
theorem EpAt.vca (h : EpAt W g d K x) {r : Rq} {e : RqD} (hx : x.now = some r) (hd : d.rq = some e) : Kd.V (Kd.int .i64) 3 W 0 K (.slice e.A2 r.s.ca.length e.c2) r.s.ca := by
  have hn := h.now
  rw [hx, hd] at hn
  exact RqAt.ca hn
/-- What a call leaves. -/
theorem RN.done (h : RN W0 W F0 K0 g d K x bs) {d0 : EpD} (hF : F0 = d0.F g) : EpPost W0 g d0 K0 x W := by
  subst hF
  exact ⟨d, K, h.ep, h.mv, h.fo, h.ko⟩
theorem RN.cells (h : RN W0 W F0 K0 g d K x bs) {r : Rq} {e : RqD} (hx : x.now = some r) (hd : d.rq = some e) : W.cell? ⟨g, 0, none⟩ = some (.slice d.A x.code.length d.c) ∧ W.cell? ⟨g, 18, none⟩ = some (.pointer (some ⟨e.rb, 0, none⟩)) ∧ W.heap[e.rb]? = some (.cells (rqCells e r) 91 (0, 0)) := by
  obtain ⟨c0, c1, _, _⟩ := h.ep.cells
  have hn := h.ep.now
  rw [hx, hd] at hn
  rw [hd] at c1
  exact ⟨c0, c1, RqAt.box hn⟩
end
end Go.Proofs.Ytkjdhhdkfbkgpaa.VmW
