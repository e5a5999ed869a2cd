/- Event processes: Run. Event processes: Run, all ways. Event processes that nobody made. Event processes: Lay, Input, End. Event processes: Pages. -/
import Derived.Test.YtkjdhhdkfbkgpaaEpM1
import Derived.Test.YtkjdhhdkfbkgpaaVmFS
namespace Go.Proofs.Ytkjdhhdkfbkgpaa.VmW
open Go.RowKit Go.Proofs.YtkjdhhdkfbkgpaaW.PrintWords Go.Proofs.YtkjdhhdkfbkgpaaW.PrintMore Go.Proofs.YtkjdhhdkfbkgpaaW.PrintLast Go.Proofs.Ytkjdhhdkfbkgpaa.Pvm
attribute [local go_sem] max2_int min2_int max_two min_two
set_option linter.unusedVariables false
set_option linter.unusedSimpArgs false
def aftX (r : Rq) (R : Res) : Option Rq := if R.kind = 2 then some ⟨R.s, r.text, r.fuel - R.used, true⟩ else if R.kind = 1 ∧ r.fuel - R.used ≠ 0 then some ⟨R.s, r.text, r.fuel - R.used, r.tr⟩ else none
theorem m0E {α : Type} {a : α} {l : List α} : a ∈ a :: l := List.mem_cons_self
theorem m1E {α : Type} {a b : α} {l : List α} : b ∈ a :: b :: l := List.mem_cons_of_mem _ List.mem_cons_self
theorem m2E {α : Type} {a b d : α} {l : List α} : d ∈ a :: b :: d :: l := List.mem_cons_of_mem _ (List.mem_cons_of_mem _ List.mem_cons_self)
abbrev stopZ : Array Value := #[.int .i64 0, .int .i64 0, .int .i64 0]
abbrev stateZ : Array Value := #[.int .i64 0, .slice none 0 0, .slice none 0 0]
section
variable {W W' W2 : World} {g : Nat} {d : EpD} {K : Nat → Prop} {x : EpS}
theorem RN.boxedN {W0 : World} {F0 K0 : Nat → Prop} {bs : List BxE} (h : RN W0 W F0 K0 g d K x bs) (n : Nat) (hn : n = W.heap.size) (cs : Array Value) (t : TypeId) (e : W.alloc (.cells cs t) = W') : RN W0 W' F0 K0 g d K x ((n, cs, t) :: bs) := by
  subst hn
  exact h.boxed cs t e
theorem swap3 {α : Type} {a b c y : α} (h : y ∈ [a, b, c]) : y ∈ [b, a, c] := by
  simp only [List.mem_cons, List.not_mem_nil, or_false] at h ⊢
  rcases h with h | h | h
  · exact .inr (.inl h)
  · exact .inl h
  · exact .inr (.inr h)
theorem nd01 {a b c : BxE} (h : (([a, b, c] : List BxE).map (·.1)).Nodup) : a.1 ≠ b.1 := by
  simp only [List.map_cons, List.map_nil, List.nodup_cons, List.mem_cons, List.not_mem_nil, or_false, not_or, not_false_eq_true, List.nodup_nil, and_true] at h
  exact h.1.1
theorem nd3 {a b c : BxE} {p q r : Array Value × TypeId} (h : (([a, b, c] : List BxE).map (·.1)).Nodup) : (([(b.1, p), (a.1, q), (c.1, r)] : List BxE).map (·.1)).Nodup := by
  simp only [List.map_cons, List.map_nil, List.nodup_cons, List.mem_cons, List.not_mem_nil, or_false, not_or, not_false_eq_true, List.nodup_nil, and_true] at h ⊢
  exact ⟨⟨fun e => h.1.1 e.symm, h.2⟩, h.1.2⟩
theorem RnEnd {W0 : World} {d0 : EpD} {K0 : Nat → Prop} {n7 n6 n5 : Nat} {a b c v0 v1 v2 : Value} {cs : Array Value} (h : RN W0 W (d0.F g) K0 g d K x [(n7, #[v0, v1, v2], 53), (n6, cs, 42), (n5, #[a, b, c], 53)]) : ((W.setCell ⟨n5, 0, none⟩ v0).cell? ⟨n5, 0, none⟩ = some v0 ∧ ((W.setCell ⟨n5, 0, none⟩ v0).setCell ⟨n5, 1, none⟩ v1).cell? ⟨n5, 1, none⟩ = some v1 ∧ (((W.setCell ⟨n5, 0, none⟩ v0).setCell ⟨n5, 1, none⟩ v1).setCell ⟨n5, 2, none⟩ v2).cell? ⟨n5, 2, none⟩ = some v2) ∧ EpPost W0 g d0 K0 x ((((W.drew.drew).setCell ⟨n5, 0, none⟩ v0).setCell ⟨n5, 1, none⟩ v1).setCell ⟨n5, 2, none⟩ v2) := by
  have hz := ((RN.sub (RN.step h (below_drew (below_drew (Below.refl _ _)))) [(n5, #[a, b, c], 53)] (fun y hy => by rw [List.mem_singleton.1 hy]; exact m2E) (by simp)).set3 v0 v1 v2)
  have hb := h.box m2E
  exact ⟨⟨blk_cell (blk_set hb 0 v0) 0, blk_cell (blk_set (blk_set hb 0 v0) 1 v1) 1, blk_cell (blk_set (blk_set (blk_set hb 0 v0) 1 v1) 2 v2) 2⟩, hz.done rfl⟩
theorem runN {W0 : World} {F0 K0 : Nat → Prop} {bs : List BxE} (h : RN W0 W F0 K0 g d K x bs) {r : Rq} {e : RqD} (hx : x.now = some r) (hd : d.rq = some e) {n m : Int} (h0 : 0 ≤ n) (h1 : n ≤ 1048576) {R : Res} (hR : runAll x.code r.s (memO x d) n = R) (hm : m = n) :
    Calls Try.prog 40 #[.slice d.A x.code.length d.c, .agg #[.int .i64 r.s.pc, .slice e.A1 r.s.st.length e.c1, .slice e.A2 r.s.ca.length e.c2], .iface 94 (.pointer (some ⟨g, 1, none⟩)), .int .i64 m] W fun E W' => ∃ B1 d1 B2 d2 pp' K', E = .returned (.tuple #[.agg #[.int .i64 R.s.pc, .slice B1 R.s.st.length d1, .slice B2 R.s.ca.length d2], .agg #[.int .i64 R.kind, .int .i64 R.trap, .int .i64 R.used], .int .i64 0]) ∧
      RN W0 W' F0 K0 g ⟨pp', d.img, d.A, d.c, d.rq⟩ K' ⟨x.code, R.m.b, R.m.o, x.now⟩ bs ∧ Kd.V (Kd.int .i64) 3 W' 0 K' (.slice B1 R.s.st.length d1) R.s.st ∧ Kd.V (Kd.int .i64) 3 W' 0 K' (.slice B2 R.s.ca.length d2) R.s.ca := by
  subst hm
  exact h.run hx hd h0 h1 hR
set_option maxHeartbeats 8000000 in
set_option maxRecDepth 100000 in
theorem EpAt.run_go (h : EpAt W g d K x) {r : Rq} {e : RqD} (hx : x.now = some r) (hd : d.rq = some e) (htr : r.tr = false) (ticks n : Int) (ht0 : 1 ≤ ticks) (ht1 : ticks ≤ 1048576) (hn : (if r.fuel < ticks then r.fuel else ticks) = n) {R : Res} (hR : runAll x.code r.s (memO x d) n = R) :
    Calls Try.prog 17 #[.pointer (some ⟨g, 0, none⟩), .int .i64 ticks] W fun E W' => E = .returned (.tuple #[.agg #[.int .i64 R.kind, .int .i64 R.trap, .int .i64 R.used], .int .i64 0]) ∧ EpPost W g d K ⟨x.code, R.m.b, R.m.o, aftX r R⟩ W' := by
  have HG := Aside0.mk (fun W1 (hb : Below W.heap.size W W1) => (h.step hb).given)
  have HX0 := Aside0.mk ((RN.start h).boxed stopZ 53 rfl)
  have t0 : decide (ticks < 1) = false := decide_eq_false (by omega)
  have t1 : decide (ticks > 1048576) = false := decide_eq_false (by omega)
  have t2 : decide (1048576 < ticks) = false := decide_eq_false (by omega)
  have HB0 := Aside0.mk (below_alloc (Below.refl W.heap.size W) (.cells stopZ 53))
  have hq : RqAt W g d.pp K x.code.length e r := by
    have := h.now
    rw [hx, hd] at this
    exact this
  have HQ := Aside0.mk (And.intro hq.fu (And.intro hq.may h.chk))
  have HHx := Aside0.mk hx
  have HHd := Aside0.mk hd
  have HN := Aside0.mk hn
  have HHR := Aside0.mk hR
  have HTr := Aside0.mk htr
  have hn0 : 0 ≤ n := by have := hq.fu; rw [← hn]; split <;> omega
  have hn1 : n ≤ 1048576 := by have := hq.fu; rw [← hn]; split <;> omega
  clear h hx hd hn hR htr hq
  go_enter Try.func17, Try.ntmps17
  go_upto_region 3 with (go_at_call 28; (with_reducible refine (HG.out _ HB0.out).mono ?_); rintro e w1 ⟨rfl, rfl⟩)
  generalize hw1 : World.alloc W _ = w1 at *
  have hc := HX0.out.cells HHx.out HHd.out
  obtain ⟨c0, c1, hbx⟩ := hc
  have q0 : w1.cell? ⟨e.rb, 0, none⟩ = some (.int .i64 r.s.pc) := blk_cell hbx 0
  have q1 : w1.cell? ⟨e.rb, 1, none⟩ = some (.slice e.A1 r.s.st.length e.c1) := blk_cell hbx 1
  have q2 : w1.cell? ⟨e.rb, 2, none⟩ = some (.slice e.A2 r.s.ca.length e.c2) := blk_cell hbx 2
  have q4 : w1.cell? ⟨e.rb, 4, none⟩ = some (.int .i64 r.fuel) := blk_cell hbx 4
  have q5 : w1.cell? ⟨e.rb, 5, none⟩ = some (.bool false) := (blk_cell hbx 5).trans (by rw [← HTr.out]; rfl)
  have HX := HX0
  clear hbx HX0 hw1 HB0 HG
  go_upto_region 5 with (fail)
  refine start_ (n := 34) (S := fun w' => w'.cell? ⟨g, 0, none⟩ = some (.slice d.A x.code.length d.c) ∧ w'.cell? ⟨g, 18, none⟩ = some (.pointer (some ⟨e.rb, 0, none⟩)) ∧ w'.cell? ⟨e.rb, 0, none⟩ = some (.int .i64 r.s.pc) ∧ w'.cell? ⟨e.rb, 1, none⟩ = some (.slice e.A1 r.s.st.length e.c1) ∧ w'.cell? ⟨e.rb, 2, none⟩ = some (.slice e.A2 r.s.ca.length e.c2) ∧ w'.cell? ⟨e.rb, 4, none⟩ = some (.int .i64 r.fuel)) (ds := [31, 32]) #[false, false, false, false, false, false, false, false, false, false, false, false, false, false, false, false, false, false, false, false, false, false, false, false, false, false, false, false, false, false, false, false, false, false] (by kernel_rfl) rfl rfl ⟨c0, c1, q0, q1, q2, q4⟩ (fun hHeld => ?_)
  refine pure_ (i := 0) (N := some 37) (v := ?_) (a' := ?_) #[true, false, false, false, false, false, false, false, false, false, false, false, false, false, false, false, false, false, false, false, false, false, false, false, false, false, false, false, false, false, false, false, false, false] rfl rfl (by kernel_rfl) (fun _ _ _ h => h) (Or.inl ⟨by rfl, ?_⟩) ?_ ?_
  rotate_left
  · intro w'
    go_simp
    with_reducible rfl
  rotate_left
  · simp only [Act.put, List.setIfInBounds_toArray, List.set_cons_zero, List.set_cons_succ, i64_w, i32_w]
    rfl
  refine pure_ (i := 1) (N := some 38) (v := ?_) (a' := ?_) #[true, true, false, false, false, false, false, false, false, false, false, false, false, false, false, false, false, false, false, false, false, false, false, false, false, false, false, false, false, false, false, false, false, false] rfl rfl (by kernel_rfl) (fun _ _ _ h => h) (Or.inl ⟨by rfl, ?_⟩) ?_ ?_
  rotate_left
  · intro w'
    go_simp
    with_reducible rfl
  rotate_left
  · simp only [Act.put, List.setIfInBounds_toArray, List.set_cons_zero, List.set_cons_succ, i64_w, i32_w]
    rfl
  refine pure_ (i := 2) (N := some 39) (v := ?_) (a' := ?_) #[true, true, true, false, false, false, false, false, false, false, false, false, false, false, false, false, false, false, false, false, false, false, false, false, false, false, false, false, false, false, false, false, false, false] rfl rfl (by kernel_rfl) (fun _ _ _ h => h) (Or.inl ⟨by rfl, ?_⟩) ?_ ?_
  rotate_left
  · intro w'
    go_simp
    with_reducible rfl
  rotate_left
  · simp only [Act.put, List.setIfInBounds_toArray, List.set_cons_zero, List.set_cons_succ, i64_w, i32_w]
    rfl
  refine pure_ (i := 4) (N := some 41) (v := ?_) (a' := ?_) #[true, true, true, false, true, false, false, false, false, false, false, false, false, false, false, false, false, false, false, false, false, false, false, false, false, false, false, false, false, false, false, false, false, false] rfl rfl (by kernel_rfl) (fun _ _ _ h => h) (Or.inl ⟨by rfl, ?_⟩) ?_ ?_
  rotate_left
  · intro w'
    go_simp
    with_reducible rfl
  rotate_left
  · simp only [Act.put, List.setIfInBounds_toArray, List.set_cons_zero, List.set_cons_succ, i64_w, i32_w]
    rfl
  refine pure_ (i := 5) (N := some 42) (v := ?_) (a' := ?_) #[true, true, true, false, true, true, false, false, false, false, false, false, false, false, false, false, false, false, false, false, false, false, false, false, false, false, false, false, false, false, false, false, false, false] rfl rfl (by kernel_rfl) (fun _ _ _ h => h) (Or.inl ⟨by rfl, ?_⟩) ?_ ?_
  rotate_left
  · intro w'
    go_simp
    with_reducible rfl
  rotate_left
  · simp only [Act.put, List.setIfInBounds_toArray, List.set_cons_zero, List.set_cons_succ, i64_w, i32_w]
    rfl
  refine pure_ (i := 6) (N := some 43) (v := ?_) (a' := ?_) #[true, true, true, false, true, true, true, false, false, false, false, false, false, false, false, false, false, false, false, false, false, false, false, false, false, false, false, false, false, false, false, false, false, false] rfl rfl (by kernel_rfl) (fun _ _ _ h => h) (Or.inl ⟨by rfl, ?_⟩) ?_ ?_
  rotate_left
  · intro w'
    go_simp
    with_reducible rfl
  rotate_left
  · simp only [Act.put, List.setIfInBounds_toArray, List.set_cons_zero, List.set_cons_succ, i64_w, i32_w]
    rfl
  refine pure_ (i := 11) (N := some 48) (v := ?_) (a' := ?_) #[true, true, true, false, true, true, true, false, false, false, false, true, false, false, false, false, false, false, false, false, false, false, false, false, false, false, false, false, false, false, false, false, false, false] rfl rfl (by kernel_rfl) (fun _ _ _ h => h) (Or.inl ⟨by rfl, ?_⟩) ?_ ?_
  rotate_left
  · intro w'
    go_simp
    with_reducible rfl
  rotate_left
  · simp only [Act.put, List.setIfInBounds_toArray, List.set_cons_zero, List.set_cons_succ, i64_w, i32_w]
    rfl
  refine pure_ (i := 12) (N := some 49) (v := ?_) (a' := ?_) #[true, true, true, false, true, true, true, false, false, false, false, true, true, false, false, false, false, false, false, false, false, false, false, false, false, false, false, false, false, false, false, false, false, false] rfl rfl (by kernel_rfl) (fun _ _ _ h => h) (Or.inl ⟨by rfl, ?_⟩) ?_ ?_
  rotate_left
  · intro w'
    go_simp
    with_reducible rfl
  rotate_left
  · simp only [Act.put, List.setIfInBounds_toArray, List.set_cons_zero, List.set_cons_succ, i64_w, i32_w]
    rfl
  refine pure_ (i := 13) (N := some 50) (v := ?_) (a' := ?_) #[true, true, true, false, true, true, true, false, false, false, false, true, true, true, false, false, false, false, false, false, false, false, false, false, false, false, false, false, false, false, false, false, false, false] rfl rfl (by kernel_rfl) (fun _ _ _ h => h) (Or.inl ⟨by rfl, ?_⟩) ?_ ?_
  rotate_left
  · intro w'
    go_simp
    with_reducible rfl
  rotate_left
  · simp only [Act.put, List.setIfInBounds_toArray, List.set_cons_zero, List.set_cons_succ, i64_w, i32_w]
    rfl
  refine pure_ (i := 14) (N := some 51) (v := ?_) (a' := ?_) #[true, true, true, false, true, true, true, false, false, false, false, true, true, true, true, false, false, false, false, false, false, false, false, false, false, false, false, false, false, false, false, false, false, false] rfl rfl (by kernel_rfl) (fun _ _ _ h => h) (Or.inl ⟨by rfl, ?_⟩) ?_ ?_
  rotate_left
  · intro w'
    go_simp
    with_reducible rfl
  rotate_left
  · simp only [Act.put, List.setIfInBounds_toArray, List.set_cons_zero, List.set_cons_succ, i64_w, i32_w]
    rfl
  refine pure_ (i := 15) (N := some 52) (v := ?_) (a' := ?_) #[true, true, true, false, true, true, true, false, false, false, false, true, true, true, true, true, false, false, false, false, false, false, false, false, false, false, false, false, false, false, false, false, false, false] rfl rfl (by kernel_rfl) (fun _ _ _ h => h) (Or.inl ⟨by rfl, ?_⟩) ?_ ?_
  rotate_left
  · intro w'
    go_simp
    with_reducible rfl
  rotate_left
  · simp only [Act.put, List.setIfInBounds_toArray, List.set_cons_zero, List.set_cons_succ, i64_w, i32_w]
    rfl
  refine pure_ (i := 16) (N := some 53) (v := ?_) (a' := ?_) #[true, true, true, false, true, true, true, false, false, false, false, true, true, true, true, true, true, false, false, false, false, false, false, false, false, false, false, false, false, false, false, false, false, false] rfl rfl (by kernel_rfl) (fun _ _ _ h => h) (Or.inl ⟨by rfl, ?_⟩) ?_ ?_
  rotate_left
  · intro w'
    go_simp
    with_reducible rfl
  rotate_left
  · simp only [Act.put, List.setIfInBounds_toArray, List.set_cons_zero, List.set_cons_succ, i64_w, i32_w]
    rfl
  refine pure_ (i := 17) (N := some 54) (v := ?_) (a' := ?_) #[true, true, true, false, true, true, true, false, false, false, false, true, true, true, true, true, true, true, false, false, false, false, false, false, false, false, false, false, false, false, false, false, false, false] rfl rfl (by kernel_rfl) (fun _ _ _ h => h) (Or.inl ⟨by rfl, ?_⟩) ?_ ?_
  rotate_left
  · intro w'
    go_simp
    with_reducible rfl
  rotate_left
  · simp only [Act.put, List.setIfInBounds_toArray, List.set_cons_zero, List.set_cons_succ, i64_w, i32_w]
    rfl
  refine pure_ (i := 18) (N := some 55) (v := ?_) (a' := ?_) #[true, true, true, false, true, true, true, false, false, false, false, true, true, true, true, true, true, true, true, false, false, false, false, false, false, false, false, false, false, false, false, false, false, false] rfl rfl (by kernel_rfl) (fun _ _ _ h => h) (Or.inl ⟨by rfl, ?_⟩) ?_ ?_
  rotate_left
  · intro w'
    go_simp
    with_reducible rfl
  rotate_left
  · simp only [Act.put, List.setIfInBounds_toArray, List.set_cons_zero, List.set_cons_succ, i64_w, i32_w]
    rfl
  refine take_ (i := 3) (N := some 40) (v := ?_) (a' := ?_) #[true, true, true, true, true, true, true, false, false, false, false, true, true, true, true, true, true, true, true, false, false, false, false, false, false, false, false, false, false, false, false, false, false, false] rfl rfl (by kernel_rfl) (fun _ _ _ h => h) (Or.inl ⟨by rfl, ?_⟩) hHeld ?_ ?_
  rotate_left
  · rintro w' ⟨s0, s1, s2, s3, s4, s5⟩
    go_simp
    with_reducible rfl
  rotate_left
  · simp only [Act.put, List.setIfInBounds_toArray, List.set_cons_zero, List.set_cons_succ, i64_w, i32_w]
    rfl
  refine take_ (i := 7) (N := some 44) (v := ?_) (a' := ?_) #[true, true, true, true, true, true, true, true, false, false, false, true, true, true, true, true, true, true, true, false, false, false, false, false, false, false, false, false, false, false, false, false, false, false] rfl rfl (by kernel_rfl) (fun _ _ _ h => h) (Or.inl ⟨by rfl, ?_⟩) hHeld ?_ ?_
  rotate_left
  · rintro w' ⟨s0, s1, s2, s3, s4, s5⟩
    go_simp
    with_reducible rfl
  rotate_left
  · simp only [Act.put, List.setIfInBounds_toArray, List.set_cons_zero, List.set_cons_succ, i64_w, i32_w]
    rfl
  refine pure_ (i := 8) (N := some 45) (v := ?_) (a' := ?_) #[true, true, true, true, true, true, true, true, true, false, false, true, true, true, true, true, true, true, true, false, false, false, false, false, false, false, false, false, false, false, false, false, false, false] rfl rfl (by kernel_rfl) (fun _ _ _ h => h) (Or.inl ⟨by rfl, ?_⟩) ?_ ?_
  rotate_left
  · intro w'
    go_simp
    with_reducible rfl
  rotate_left
  · simp only [Act.put, List.setIfInBounds_toArray, List.set_cons_zero, List.set_cons_succ, i64_w, i32_w]
    rfl
  refine pure_ (i := 9) (N := some 46) (v := ?_) (a' := ?_) #[true, true, true, true, true, true, true, true, true, true, false, true, true, true, true, true, true, true, true, false, false, false, false, false, false, false, false, false, false, false, false, false, false, false] rfl rfl (by kernel_rfl) (fun _ _ _ h => h) (Or.inl ⟨by rfl, ?_⟩) ?_ ?_
  rotate_left
  · intro w'
    go_simp
    with_reducible rfl
  rotate_left
  · simp only [Act.put, List.setIfInBounds_toArray, List.set_cons_zero, List.set_cons_succ, i64_w, i32_w]
    rfl
  refine take_ (i := 10) (N := some 47) (v := ?_) (a' := ?_) #[true, true, true, true, true, true, true, true, true, true, true, true, true, true, true, true, true, true, true, false, false, false, false, false, false, false, false, false, false, false, false, false, false, false] rfl rfl (by kernel_rfl) (fun _ _ _ h => h) (Or.inl ⟨by rfl, ?_⟩) hHeld ?_ ?_
  rotate_left
  · rintro w' ⟨s0, s1, s2, s3, s4, s5⟩
    go_simp
    with_reducible rfl
  rotate_left
  · simp only [Act.put, List.setIfInBounds_toArray, List.set_cons_zero, List.set_cons_succ, i64_w, i32_w]
    rfl
  refine take_ (i := 19) (N := some 56) (v := ?_) (a' := ?_) #[true, true, true, true, true, true, true, true, true, true, true, true, true, true, true, true, true, true, true, true, false, false, false, false, false, false, false, false, false, false, false, false, false, false] rfl rfl (by kernel_rfl) (fun _ _ _ h => h) (Or.inl ⟨by rfl, ?_⟩) hHeld ?_ ?_
  rotate_left
  · rintro w' ⟨s0, s1, s2, s3, s4, s5⟩
    go_simp
    with_reducible rfl
  rotate_left
  · simp only [Act.put, List.setIfInBounds_toArray, List.set_cons_zero, List.set_cons_succ, i64_w, i32_w]
    rfl
  refine pure_ (i := 20) (N := some 57) (v := ?_) (a' := ?_) #[true, true, true, true, true, true, true, true, true, true, true, true, true, true, true, true, true, true, true, true, true, false, false, false, false, false, false, false, false, false, false, false, false, false] rfl rfl (by kernel_rfl) (fun _ _ _ h => h) (Or.inl ⟨by rfl, ?_⟩) ?_ ?_
  rotate_left
  · intro w'
    go_simp
    with_reducible rfl
  rotate_left
  · simp only [Act.put, List.setIfInBounds_toArray, List.set_cons_zero, List.set_cons_succ, i64_w, i32_w]
    rfl
  refine pure_ (i := 21) (N := some 58) (v := ?_) (a' := ?_) #[true, true, true, true, true, true, true, true, true, true, true, true, true, true, true, true, true, true, true, true, true, true, false, false, false, false, false, false, false, false, false, false, false, false] rfl rfl (by kernel_rfl) (fun _ _ _ h => h) (Or.inl ⟨by rfl, ?_⟩) ?_ ?_
  rotate_left
  · intro w'
    go_simp
    with_reducible rfl
  rotate_left
  · simp only [Act.put, List.setIfInBounds_toArray, List.set_cons_zero, List.set_cons_succ, i64_w, i32_w]
    rfl
  refine take_ (i := 22) (N := some 59) (v := ?_) (a' := ?_) #[true, true, true, true, true, true, true, true, true, true, true, true, true, true, true, true, true, true, true, true, true, true, true, false, false, false, false, false, false, false, false, false, false, false] rfl rfl (by kernel_rfl) (fun _ _ _ h => h) (Or.inl ⟨by rfl, ?_⟩) hHeld ?_ ?_
  rotate_left
  · rintro w' ⟨s0, s1, s2, s3, s4, s5⟩
    go_simp
    with_reducible rfl
  rotate_left
  · simp only [Act.put, List.setIfInBounds_toArray, List.set_cons_zero, List.set_cons_succ, i64_w, i32_w]
    rfl
  refine pure_ (i := 23) (N := some 60) (v := ?_) (a' := ?_) #[true, true, true, true, true, true, true, true, true, true, true, true, true, true, true, true, true, true, true, true, true, true, true, true, false, false, false, false, false, false, false, false, false, false] rfl rfl (by kernel_rfl) (fun _ _ _ h => h) (Or.inl ⟨by rfl, ?_⟩) ?_ ?_
  rotate_left
  · intro w'
    go_simp
    with_reducible rfl
  rotate_left
  · simp only [Act.put, List.setIfInBounds_toArray, List.set_cons_zero, List.set_cons_succ, i64_w, i32_w]
    rfl
  refine join_ (σ := Nat × Nat × Option Addr × Nat × Option Addr × Nat) 3 #[true, true, true, true, true, true, true, true, true, true, true, true, true, true, true, true, true, true, true, true, true, true, true, true, true, true, true, true, true, true, true, false, false, false] (fun s => [(61, .tuple #[.agg #[.int .i64 R.s.pc, .slice s.2.2.1 R.s.st.length s.2.2.2.1, .slice s.2.2.2.2.1 R.s.ca.length s.2.2.2.2.2], .agg #[.int .i64 R.kind, .int .i64 R.trap, .int .i64 R.used], .int .i64 0]), (36, .tuple #[.agg #[.int .i64 R.s.pc, .slice s.2.2.1 R.s.st.length s.2.2.2.1, .slice s.2.2.2.2.1 R.s.ca.length s.2.2.2.2.2], .agg #[.int .i64 R.kind, .int .i64 R.trap, .int .i64 R.used], .int .i64 0]), (62, .agg #[.int .i64 R.s.pc, .slice s.2.2.1 R.s.st.length s.2.2.2.1, .slice s.2.2.2.2.1 R.s.ca.length s.2.2.2.2.2]), (63, .agg #[.int .i64 R.kind, .int .i64 R.trap, .int .i64 R.used]), (64, .int .i64 0), (6, .pointer (some ⟨s.1, 0, none⟩)), (7, .pointer (some ⟨s.2.1, 0, none⟩))]) (fun s w' => ∃ pp' K', RN W w' (d.F g) K g ⟨pp', d.img, d.A, d.c, d.rq⟩ K' ⟨x.code, R.m.b, R.m.o, x.now⟩ [(s.1, stateZ, 42), (s.2.1, stopZ, 53), (W.heap.size, stopZ, 53)] ∧ Kd.V (Kd.int .i64) 3 w' 0 K' (.slice s.2.2.1 R.s.st.length s.2.2.2.1) R.s.st ∧ Kd.V (Kd.int .i64) 3 w' 0 K' (.slice s.2.2.2.2.1 R.s.ca.length s.2.2.2.2.2) R.s.ca) ?_ ?_
  rotate_left
  · intro hCont
    refine three_ (i := 24) (j := 29) (k := 30) (Ni := some 61) (Nj := some 6) (Nk := some 7) #[true, true, true, true, true, true, true, true, true, true, true, true, true, true, true, true, true, true, true, true, true, true, true, true, true, false, false, false, false, false, false, false, false, false] #[true, true, true, true, true, true, true, true, true, true, true, true, true, true, true, true, true, true, true, true, true, true, true, true, false, false, false, false, false, true, false, false, false, false] #[true, true, true, true, true, true, true, true, true, true, true, true, true, true, true, true, true, true, true, true, true, true, true, true, false, false, false, false, false, false, true, false, false, false] rfl rfl rfl rfl rfl rfl (by kernel_rfl) (by decide) (by decide) (by decide) (fun K hK => ?_) (fun K hK => ?_) (fun K hK => ?_)
    · skip
      refine goes_ Try.func40 (by kernel_rfl) rfl #[.slice d.A x.code.length d.c, .agg #[.int .i64 r.s.pc, .slice e.A1 r.s.st.length e.c1, .slice e.A2 r.s.ca.length e.c2], .iface 94 (.pointer (some ⟨g, 1, none⟩)), .int .i64 (if r.fuel < ticks then r.fuel else ticks)] (by rfl) rfl rfl (by simp only [List.map_toArray, List.map_cons, List.map_nil]; rfl) ?_
      with_reducible refine ((runN (HX.out.step (below_drew (Below.refl _ _))) HHx.out HHd.out hn0 hn1 HHR.out HN.out)).mono ?_
      rintro e_ w3 ⟨B1, d1, B2, d2, pp', K', rfl, hX, hv1, hv2⟩
      refine ⟨_, rfl, ?_⟩
      have HX := Aside0.mk hX
      have HV1 := Aside0.mk hv1
      have HV2 := Aside0.mk hv2
      clear hX hv1 hv2
      refine hK.out _ _ ⟨(HX.out.cells HHx.out HHd.out).1, (HX.out.cells HHx.out HHd.out).2.1, blk_cell (HX.out.cells HHx.out HHd.out).2.2 0, blk_cell (HX.out.cells HHx.out HHd.out).2.2 1, blk_cell (HX.out.cells HHx.out HHd.out).2.2 2, blk_cell (HX.out.cells HHx.out HHd.out).2.2 4⟩ (fun hHeld => ?_)
      clear hK K
      refine norm_ (a' := ?_) ?_ ?_
      rotate_left
      · show Act.put _ (some 61) _ = _
        simp only [Act.put, List.setIfInBounds_toArray, List.set_cons_zero, List.set_cons_succ, i64_w, i32_w]
        rfl
      refine pure_ (i := 25) (N := some 36) (v := ?_) (a' := ?_) #[true, true, true, true, true, true, true, true, true, true, true, true, true, true, true, true, true, true, true, true, true, true, true, true, true, true, false, false, false, false, false, false, false, false] rfl rfl (by kernel_rfl) (fun _ _ _ h => h) (Or.inl ⟨by rfl, ?_⟩) ?_ ?_
      rotate_left
      · intro w'
        go_simp
        with_reducible rfl
      rotate_left
      · simp only [Act.put, List.setIfInBounds_toArray, List.set_cons_zero, List.set_cons_succ, i64_w, i32_w]
        rfl
      refine pure_ (i := 26) (N := some 62) (v := ?_) (a' := ?_) #[true, true, true, true, true, true, true, true, true, true, true, true, true, true, true, true, true, true, true, true, true, true, true, true, true, true, true, false, false, false, false, false, false, false] rfl rfl (by kernel_rfl) (fun _ _ _ h => h) (Or.inl ⟨by rfl, ?_⟩) ?_ ?_
      rotate_left
      · intro w'
        go_simp
        with_reducible rfl
      rotate_left
      · simp only [Act.put, List.setIfInBounds_toArray, List.set_cons_zero, List.set_cons_succ, i64_w, i32_w]
        rfl
      refine pure_ (i := 27) (N := some 63) (v := ?_) (a' := ?_) #[true, true, true, true, true, true, true, true, true, true, true, true, true, true, true, true, true, true, true, true, true, true, true, true, true, true, true, true, false, false, false, false, false, false] rfl rfl (by kernel_rfl) (fun _ _ _ h => h) (Or.inl ⟨by rfl, ?_⟩) ?_ ?_
      rotate_left
      · intro w'
        go_simp
        with_reducible rfl
      rotate_left
      · simp only [Act.put, List.setIfInBounds_toArray, List.set_cons_zero, List.set_cons_succ, i64_w, i32_w]
        rfl
      refine pure_ (i := 28) (N := some 64) (v := ?_) (a' := ?_) #[true, true, true, true, true, true, true, true, true, true, true, true, true, true, true, true, true, true, true, true, true, true, true, true, true, true, true, true, true, false, false, false, false, false] rfl rfl (by kernel_rfl) (fun _ _ _ h => h) (Or.inl ⟨by rfl, ?_⟩) ?_ ?_
      rotate_left
      · intro w'
        go_simp
        with_reducible rfl
      rotate_left
      · simp only [Act.put, List.setIfInBounds_toArray, List.set_cons_zero, List.set_cons_succ, i64_w, i32_w]
        rfl
      refine two_ (i := 29) (j := 30) (Ni := some 6) (Nj := some 7) #[true, true, true, true, true, true, true, true, true, true, true, true, true, true, true, true, true, true, true, true, true, true, true, true, true, true, true, true, true, true, false, false, false, false] #[true, true, true, true, true, true, true, true, true, true, true, true, true, true, true, true, true, true, true, true, true, true, true, true, true, true, true, true, true, false, true, false, false, false] rfl rfl rfl rfl (by kernel_rfl) (by decide) (by decide) (fun K hK => ?_) (fun K hK => ?_)
      · skip
        refine value_ (w1 := ?_) (v := ?_) (by rfl) rfl ?_ ?_
        rotate_left 2
        · go_simp
          constructor
          · rfl
          · rfl
        have HX := Aside0.mk (HX.out.boxedN (w3.heap.size) (by first | rfl | simp) stateZ 42 rfl)
        have HV1 := Aside0.mk (Kd.V_alloc HV1.out (.cells stateZ 42))
        have HV2 := Aside0.mk (Kd.V_alloc HV2.out (.cells stateZ 42))
        refine hK.out _ _ ⟨(HX.out.cells HHx.out HHd.out).1, (HX.out.cells HHx.out HHd.out).2.1, blk_cell (HX.out.cells HHx.out HHd.out).2.2 0, blk_cell (HX.out.cells HHx.out HHd.out).2.2 1, blk_cell (HX.out.cells HHx.out HHd.out).2.2 2, blk_cell (HX.out.cells HHx.out HHd.out).2.2 4⟩ (fun hHeld => ?_)
        clear hK K
        refine norm_ (a' := ?_) ?_ ?_
        rotate_left
        · show Act.put _ (some 6) _ = _
          simp only [Act.put, List.setIfInBounds_toArray, List.set_cons_zero, List.set_cons_succ, i64_w, i32_w]
          rfl
        refine one_ (i := 30) (N := some 7) #[true, true, true, true, true, true, true, true, true, true, true, true, true, true, true, true, true, true, true, true, true, true, true, true, true, true, true, true, true, true, true, false, false, false] rfl rfl (by kernel_rfl) (by decide) (fun K hK => ?_)
        refine value_ (w1 := ?_) (v := ?_) (by rfl) rfl ?_ ?_
        rotate_left 2
        · go_simp
          constructor
          · rfl
          · rfl
        have HX := Aside0.mk (HX.out.boxedN (w3.heap.size + 1) (by first | rfl | simp) stopZ 53 rfl)
        have HV1 := Aside0.mk (Kd.V_alloc HV1.out (.cells stopZ 53))
        have HV2 := Aside0.mk (Kd.V_alloc HV2.out (.cells stopZ 53))
        refine hK.out _ _ ⟨(HX.out.cells HHx.out HHd.out).1, (HX.out.cells HHx.out HHd.out).2.1, blk_cell (HX.out.cells HHx.out HHd.out).2.2 0, blk_cell (HX.out.cells HHx.out HHd.out).2.2 1, blk_cell (HX.out.cells HHx.out HHd.out).2.2 2, blk_cell (HX.out.cells HHx.out HHd.out).2.2 4⟩ (fun hHeld => ?_)
        clear hK K
        refine norm_ (a' := ?_) ?_ ?_
        rotate_left
        · show Act.put _ (some 7) _ = _
          simp only [Act.put, List.setIfInBounds_toArray, List.set_cons_zero, List.set_cons_succ, i64_w, i32_w]
          rfl
        exact norm_ (by first | (simp only [putAll, Act.put, List.setIfInBounds_toArray, List.set_cons_zero, List.set_cons_succ]; done) | (simp only [putAll, Act.put, List.setIfInBounds_toArray, List.set_cons_zero, List.set_cons_succ]; rfl)) (hCont (w3.heap.size, w3.heap.size + 1, B1, d1, B2, d2) _ ⟨pp', K', (HX.out.sub _ (fun b hb => swap3 hb) (nd3 HX.out.nd)), HV1.out, HV2.out⟩)
      · skip
        refine value_ (w1 := ?_) (v := ?_) (by rfl) rfl ?_ ?_
        rotate_left 2
        · go_simp
          constructor
          · rfl
          · rfl
        have HX := Aside0.mk (HX.out.boxedN (w3.heap.size) (by first | rfl | simp) stopZ 53 rfl)
        have HV1 := Aside0.mk (Kd.V_alloc HV1.out (.cells stopZ 53))
        have HV2 := Aside0.mk (Kd.V_alloc HV2.out (.cells stopZ 53))
        refine hK.out _ _ ⟨(HX.out.cells HHx.out HHd.out).1, (HX.out.cells HHx.out HHd.out).2.1, blk_cell (HX.out.cells HHx.out HHd.out).2.2 0, blk_cell (HX.out.cells HHx.out HHd.out).2.2 1, blk_cell (HX.out.cells HHx.out HHd.out).2.2 2, blk_cell (HX.out.cells HHx.out HHd.out).2.2 4⟩ (fun hHeld => ?_)
        clear hK K
        refine norm_ (a' := ?_) ?_ ?_
        rotate_left
        · show Act.put _ (some 7) _ = _
          simp only [Act.put, List.setIfInBounds_toArray, List.set_cons_zero, List.set_cons_succ, i64_w, i32_w]
          rfl
        refine one_ (i := 29) (N := some 6) #[true, true, true, true, true, true, true, true, true, true, true, true, true, true, true, true, true, true, true, true, true, true, true, true, true, true, true, true, true, true, true, false, false, false] rfl rfl (by kernel_rfl) (by decide) (fun K hK => ?_)
        refine value_ (w1 := ?_) (v := ?_) (by rfl) rfl ?_ ?_
        rotate_left 2
        · go_simp
          constructor
          · rfl
          · rfl
        have HX := Aside0.mk (HX.out.boxedN (w3.heap.size + 1) (by first | rfl | simp) stateZ 42 rfl)
        have HV1 := Aside0.mk (Kd.V_alloc HV1.out (.cells stateZ 42))
        have HV2 := Aside0.mk (Kd.V_alloc HV2.out (.cells stateZ 42))
        refine hK.out _ _ ⟨(HX.out.cells HHx.out HHd.out).1, (HX.out.cells HHx.out HHd.out).2.1, blk_cell (HX.out.cells HHx.out HHd.out).2.2 0, blk_cell (HX.out.cells HHx.out HHd.out).2.2 1, blk_cell (HX.out.cells HHx.out HHd.out).2.2 2, blk_cell (HX.out.cells HHx.out HHd.out).2.2 4⟩ (fun hHeld => ?_)
        clear hK K
        refine norm_ (a' := ?_) ?_ ?_
        rotate_left
        · show Act.put _ (some 6) _ = _
          simp only [Act.put, List.setIfInBounds_toArray, List.set_cons_zero, List.set_cons_succ, i64_w, i32_w]
          rfl
        exact norm_ (by first | (simp only [putAll, Act.put, List.setIfInBounds_toArray, List.set_cons_zero, List.set_cons_succ]; done) | (simp only [putAll, Act.put, List.setIfInBounds_toArray, List.set_cons_zero, List.set_cons_succ]; rfl)) (hCont (w3.heap.size + 1, w3.heap.size, B1, d1, B2, d2) _ ⟨pp', K', HX.out, HV1.out, HV2.out⟩)
    · skip
      refine value_ (w1 := ?_) (v := ?_) (by rfl) rfl ?_ ?_
      rotate_left 2
      · go_simp
        constructor
        · rfl
        · rfl
      have HX := Aside0.mk (HX.out.boxedN (w1.heap.size) (by first | rfl | simp) stateZ 42 rfl)
      refine hK.out _ _ ⟨(HX.out.cells HHx.out HHd.out).1, (HX.out.cells HHx.out HHd.out).2.1, blk_cell (HX.out.cells HHx.out HHd.out).2.2 0, blk_cell (HX.out.cells HHx.out HHd.out).2.2 1, blk_cell (HX.out.cells HHx.out HHd.out).2.2 2, blk_cell (HX.out.cells HHx.out HHd.out).2.2 4⟩ (fun hHeld => ?_)
      clear hK K
      refine norm_ (a' := ?_) ?_ ?_
      rotate_left
      · show Act.put _ (some 6) _ = _
        simp only [Act.put, List.setIfInBounds_toArray, List.set_cons_zero, List.set_cons_succ, i64_w, i32_w]
        rfl
      refine two_ (i := 24) (j := 30) (Ni := some 61) (Nj := some 7) #[true, true, true, true, true, true, true, true, true, true, true, true, true, true, true, true, true, true, true, true, true, true, true, true, true, false, false, false, false, true, false, false, false, false] #[true, true, true, true, true, true, true, true, true, true, true, true, true, true, true, true, true, true, true, true, true, true, true, true, false, false, false, false, false, true, true, false, false, false] rfl rfl rfl rfl (by kernel_rfl) (by decide) (by decide) (fun K hK => ?_) (fun K hK => ?_)
      · skip
        refine goes_ Try.func40 (by kernel_rfl) rfl #[.slice d.A x.code.length d.c, .agg #[.int .i64 r.s.pc, .slice e.A1 r.s.st.length e.c1, .slice e.A2 r.s.ca.length e.c2], .iface 94 (.pointer (some ⟨g, 1, none⟩)), .int .i64 (if r.fuel < ticks then r.fuel else ticks)] (by rfl) rfl rfl (by simp only [List.map_toArray, List.map_cons, List.map_nil]; rfl) ?_
        with_reducible refine ((runN (HX.out.step (below_drew (Below.refl _ _))) HHx.out HHd.out hn0 hn1 HHR.out HN.out)).mono ?_
        rintro e_ w3 ⟨B1, d1, B2, d2, pp', K', rfl, hX, hv1, hv2⟩
        refine ⟨_, rfl, ?_⟩
        have HX := Aside0.mk hX
        have HV1 := Aside0.mk hv1
        have HV2 := Aside0.mk hv2
        clear hX hv1 hv2
        refine hK.out _ _ ⟨(HX.out.cells HHx.out HHd.out).1, (HX.out.cells HHx.out HHd.out).2.1, blk_cell (HX.out.cells HHx.out HHd.out).2.2 0, blk_cell (HX.out.cells HHx.out HHd.out).2.2 1, blk_cell (HX.out.cells HHx.out HHd.out).2.2 2, blk_cell (HX.out.cells HHx.out HHd.out).2.2 4⟩ (fun hHeld => ?_)
        clear hK K
        refine norm_ (a' := ?_) ?_ ?_
        rotate_left
        · show Act.put _ (some 61) _ = _
          simp only [Act.put, List.setIfInBounds_toArray, List.set_cons_zero, List.set_cons_succ, i64_w, i32_w]
          rfl
        refine pure_ (i := 25) (N := some 36) (v := ?_) (a' := ?_) #[true, true, true, true, true, true, true, true, true, true, true, true, true, true, true, true, true, true, true, true, true, true, true, true, true, true, false, false, false, true, false, false, false, false] rfl rfl (by kernel_rfl) (fun _ _ _ h => h) (Or.inl ⟨by rfl, ?_⟩) ?_ ?_
        rotate_left
        · intro w'
          go_simp
          with_reducible rfl
        rotate_left
        · simp only [Act.put, List.setIfInBounds_toArray, List.set_cons_zero, List.set_cons_succ, i64_w, i32_w]
          rfl
        refine pure_ (i := 26) (N := some 62) (v := ?_) (a' := ?_) #[true, true, true, true, true, true, true, true, true, true, true, true, true, true, true, true, true, true, true, true, true, true, true, true, true, true, true, false, false, true, false, false, false, false] rfl rfl (by kernel_rfl) (fun _ _ _ h => h) (Or.inl ⟨by rfl, ?_⟩) ?_ ?_
        rotate_left
        · intro w'
          go_simp
          with_reducible rfl
        rotate_left
        · simp only [Act.put, List.setIfInBounds_toArray, List.set_cons_zero, List.set_cons_succ, i64_w, i32_w]
          rfl
        refine pure_ (i := 27) (N := some 63) (v := ?_) (a' := ?_) #[true, true, true, true, true, true, true, true, true, true, true, true, true, true, true, true, true, true, true, true, true, true, true, true, true, true, true, true, false, true, false, false, false, false] rfl rfl (by kernel_rfl) (fun _ _ _ h => h) (Or.inl ⟨by rfl, ?_⟩) ?_ ?_
        rotate_left
        · intro w'
          go_simp
          with_reducible rfl
        rotate_left
        · simp only [Act.put, List.setIfInBounds_toArray, List.set_cons_zero, List.set_cons_succ, i64_w, i32_w]
          rfl
        refine pure_ (i := 28) (N := some 64) (v := ?_) (a' := ?_) #[true, true, true, true, true, true, true, true, true, true, true, true, true, true, true, true, true, true, true, true, true, true, true, true, true, true, true, true, true, true, false, false, false, false] rfl rfl (by kernel_rfl) (fun _ _ _ h => h) (Or.inl ⟨by rfl, ?_⟩) ?_ ?_
        rotate_left
        · intro w'
          go_simp
          with_reducible rfl
        rotate_left
        · simp only [Act.put, List.setIfInBounds_toArray, List.set_cons_zero, List.set_cons_succ, i64_w, i32_w]
          rfl
        refine one_ (i := 30) (N := some 7) #[true, true, true, true, true, true, true, true, true, true, true, true, true, true, true, true, true, true, true, true, true, true, true, true, true, true, true, true, true, true, true, false, false, false] rfl rfl (by kernel_rfl) (by decide) (fun K hK => ?_)
        refine value_ (w1 := ?_) (v := ?_) (by rfl) rfl ?_ ?_
        rotate_left 2
        · go_simp
          constructor
          · rfl
          · rfl
        have HX := Aside0.mk (HX.out.boxedN (w3.heap.size) (by first | rfl | simp) stopZ 53 rfl)
        have HV1 := Aside0.mk (Kd.V_alloc HV1.out (.cells stopZ 53))
        have HV2 := Aside0.mk (Kd.V_alloc HV2.out (.cells stopZ 53))
        refine hK.out _ _ ⟨(HX.out.cells HHx.out HHd.out).1, (HX.out.cells HHx.out HHd.out).2.1, blk_cell (HX.out.cells HHx.out HHd.out).2.2 0, blk_cell (HX.out.cells HHx.out HHd.out).2.2 1, blk_cell (HX.out.cells HHx.out HHd.out).2.2 2, blk_cell (HX.out.cells HHx.out HHd.out).2.2 4⟩ (fun hHeld => ?_)
        clear hK K
        refine norm_ (a' := ?_) ?_ ?_
        rotate_left
        · show Act.put _ (some 7) _ = _
          simp only [Act.put, List.setIfInBounds_toArray, List.set_cons_zero, List.set_cons_succ, i64_w, i32_w]
          rfl
        exact norm_ (by first | (simp only [putAll, Act.put, List.setIfInBounds_toArray, List.set_cons_zero, List.set_cons_succ]; done) | (simp only [putAll, Act.put, List.setIfInBounds_toArray, List.set_cons_zero, List.set_cons_succ]; rfl)) (hCont (w1.heap.size, w3.heap.size, B1, d1, B2, d2) _ ⟨pp', K', (HX.out.sub _ (fun b hb => swap3 hb) (nd3 HX.out.nd)), HV1.out, HV2.out⟩)
      · skip
        refine value_ (w1 := ?_) (v := ?_) (by rfl) rfl ?_ ?_
        rotate_left 2
        · go_simp
          constructor
          · rfl
          · rfl
        have HX := Aside0.mk (HX.out.boxedN (w1.heap.size + 1) (by first | rfl | simp) stopZ 53 rfl)
        refine hK.out _ _ ⟨(HX.out.cells HHx.out HHd.out).1, (HX.out.cells HHx.out HHd.out).2.1, blk_cell (HX.out.cells HHx.out HHd.out).2.2 0, blk_cell (HX.out.cells HHx.out HHd.out).2.2 1, blk_cell (HX.out.cells HHx.out HHd.out).2.2 2, blk_cell (HX.out.cells HHx.out HHd.out).2.2 4⟩ (fun hHeld => ?_)
        clear hK K
        refine norm_ (a' := ?_) ?_ ?_
        rotate_left
        · show Act.put _ (some 7) _ = _
          simp only [Act.put, List.setIfInBounds_toArray, List.set_cons_zero, List.set_cons_succ, i64_w, i32_w]
          rfl
        refine one_ (i := 24) (N := some 61) #[true, true, true, true, true, true, true, true, true, true, true, true, true, true, true, true, true, true, true, true, true, true, true, true, true, false, false, false, false, true, true, false, false, false] rfl rfl (by kernel_rfl) (by decide) (fun K hK => ?_)
        refine goes_ Try.func40 (by kernel_rfl) rfl #[.slice d.A x.code.length d.c, .agg #[.int .i64 r.s.pc, .slice e.A1 r.s.st.length e.c1, .slice e.A2 r.s.ca.length e.c2], .iface 94 (.pointer (some ⟨g, 1, none⟩)), .int .i64 (if r.fuel < ticks then r.fuel else ticks)] (by rfl) rfl rfl (by simp only [List.map_toArray, List.map_cons, List.map_nil]; rfl) ?_
        with_reducible refine ((runN (HX.out.step (below_drew (Below.refl _ _))) HHx.out HHd.out hn0 hn1 HHR.out HN.out)).mono ?_
        rintro e_ w3 ⟨B1, d1, B2, d2, pp', K', rfl, hX, hv1, hv2⟩
        refine ⟨_, rfl, ?_⟩
        have HX := Aside0.mk hX
        have HV1 := Aside0.mk hv1
        have HV2 := Aside0.mk hv2
        clear hX hv1 hv2
        refine hK.out _ _ ⟨(HX.out.cells HHx.out HHd.out).1, (HX.out.cells HHx.out HHd.out).2.1, blk_cell (HX.out.cells HHx.out HHd.out).2.2 0, blk_cell (HX.out.cells HHx.out HHd.out).2.2 1, blk_cell (HX.out.cells HHx.out HHd.out).2.2 2, blk_cell (HX.out.cells HHx.out HHd.out).2.2 4⟩ (fun hHeld => ?_)
        clear hK K
        refine norm_ (a' := ?_) ?_ ?_
        rotate_left
        · show Act.put _ (some 61) _ = _
          simp only [Act.put, List.setIfInBounds_toArray, List.set_cons_zero, List.set_cons_succ, i64_w, i32_w]
          rfl
        refine pure_ (i := 25) (N := some 36) (v := ?_) (a' := ?_) #[true, true, true, true, true, true, true, true, true, true, true, true, true, true, true, true, true, true, true, true, true, true, true, true, true, true, false, false, false, true, true, false, false, false] rfl rfl (by kernel_rfl) (fun _ _ _ h => h) (Or.inl ⟨by rfl, ?_⟩) ?_ ?_
        rotate_left
        · intro w'
          go_simp
          with_reducible rfl
        rotate_left
        · simp only [Act.put, List.setIfInBounds_toArray, List.set_cons_zero, List.set_cons_succ, i64_w, i32_w]
          rfl
        refine pure_ (i := 26) (N := some 62) (v := ?_) (a' := ?_) #[true, true, true, true, true, true, true, true, true, true, true, true, true, true, true, true, true, true, true, true, true, true, true, true, true, true, true, false, false, true, true, false, false, false] rfl rfl (by kernel_rfl) (fun _ _ _ h => h) (Or.inl ⟨by rfl, ?_⟩) ?_ ?_
        rotate_left
        · intro w'
          go_simp
          with_reducible rfl
        rotate_left
        · simp only [Act.put, List.setIfInBounds_toArray, List.set_cons_zero, List.set_cons_succ, i64_w, i32_w]
          rfl
        refine pure_ (i := 27) (N := some 63) (v := ?_) (a' := ?_) #[true, true, true, true, true, true, true, true, true, true, true, true, true, true, true, true, true, true, true, true, true, true, true, true, true, true, true, true, false, true, true, false, false, false] rfl rfl (by kernel_rfl) (fun _ _ _ h => h) (Or.inl ⟨by rfl, ?_⟩) ?_ ?_
        rotate_left
        · intro w'
          go_simp
          with_reducible rfl
        rotate_left
        · simp only [Act.put, List.setIfInBounds_toArray, List.set_cons_zero, List.set_cons_succ, i64_w, i32_w]
          rfl
        refine pure_ (i := 28) (N := some 64) (v := ?_) (a' := ?_) #[true, true, true, true, true, true, true, true, true, true, true, true, true, true, true, true, true, true, true, true, true, true, true, true, true, true, true, true, true, true, true, false, false, false] rfl rfl (by kernel_rfl) (fun _ _ _ h => h) (Or.inl ⟨by rfl, ?_⟩) ?_ ?_
        rotate_left
        · intro w'
          go_simp
          with_reducible rfl
        rotate_left
        · simp only [Act.put, List.setIfInBounds_toArray, List.set_cons_zero, List.set_cons_succ, i64_w, i32_w]
          rfl
        exact norm_ (by first | (simp only [putAll, Act.put, List.setIfInBounds_toArray, List.set_cons_zero, List.set_cons_succ]; done) | (simp only [putAll, Act.put, List.setIfInBounds_toArray, List.set_cons_zero, List.set_cons_succ]; rfl)) (hCont (w1.heap.size, w1.heap.size + 1, B1, d1, B2, d2) _ ⟨pp', K', (HX.out.sub _ (fun b hb => swap3 hb) (nd3 HX.out.nd)), HV1.out, HV2.out⟩)
    · skip
      refine value_ (w1 := ?_) (v := ?_) (by rfl) rfl ?_ ?_
      rotate_left 2
      · go_simp
        constructor
        · rfl
        · rfl
      have HX := Aside0.mk (HX.out.boxedN (w1.heap.size) (by first | rfl | simp) stopZ 53 rfl)
      refine hK.out _ _ ⟨(HX.out.cells HHx.out HHd.out).1, (HX.out.cells HHx.out HHd.out).2.1, blk_cell (HX.out.cells HHx.out HHd.out).2.2 0, blk_cell (HX.out.cells HHx.out HHd.out).2.2 1, blk_cell (HX.out.cells HHx.out HHd.out).2.2 2, blk_cell (HX.out.cells HHx.out HHd.out).2.2 4⟩ (fun hHeld => ?_)
      clear hK K
      refine norm_ (a' := ?_) ?_ ?_
      rotate_left
      · show Act.put _ (some 7) _ = _
        simp only [Act.put, List.setIfInBounds_toArray, List.set_cons_zero, List.set_cons_succ, i64_w, i32_w]
        rfl
      refine two_ (i := 24) (j := 29) (Ni := some 61) (Nj := some 6) #[true, true, true, true, true, true, true, true, true, true, true, true, true, true, true, true, true, true, true, true, true, true, true, true, true, false, false, false, false, false, true, false, false, false] #[true, true, true, true, true, true, true, true, true, true, true, true, true, true, true, true, true, true, true, true, true, true, true, true, false, false, false, false, false, true, true, false, false, false] rfl rfl rfl rfl (by kernel_rfl) (by decide) (by decide) (fun K hK => ?_) (fun K hK => ?_)
      · skip
        refine goes_ Try.func40 (by kernel_rfl) rfl #[.slice d.A x.code.length d.c, .agg #[.int .i64 r.s.pc, .slice e.A1 r.s.st.length e.c1, .slice e.A2 r.s.ca.length e.c2], .iface 94 (.pointer (some ⟨g, 1, none⟩)), .int .i64 (if r.fuel < ticks then r.fuel else ticks)] (by rfl) rfl rfl (by simp only [List.map_toArray, List.map_cons, List.map_nil]; rfl) ?_
        with_reducible refine ((runN (HX.out.step (below_drew (Below.refl _ _))) HHx.out HHd.out hn0 hn1 HHR.out HN.out)).mono ?_
        rintro e_ w3 ⟨B1, d1, B2, d2, pp', K', rfl, hX, hv1, hv2⟩
        refine ⟨_, rfl, ?_⟩
        have HX := Aside0.mk hX
        have HV1 := Aside0.mk hv1
        have HV2 := Aside0.mk hv2
        clear hX hv1 hv2
        refine hK.out _ _ ⟨(HX.out.cells HHx.out HHd.out).1, (HX.out.cells HHx.out HHd.out).2.1, blk_cell (HX.out.cells HHx.out HHd.out).2.2 0, blk_cell (HX.out.cells HHx.out HHd.out).2.2 1, blk_cell (HX.out.cells HHx.out HHd.out).2.2 2, blk_cell (HX.out.cells HHx.out HHd.out).2.2 4⟩ (fun hHeld => ?_)
        clear hK K
        refine norm_ (a' := ?_) ?_ ?_
        rotate_left
        · show Act.put _ (some 61) _ = _
          simp only [Act.put, List.setIfInBounds_toArray, List.set_cons_zero, List.set_cons_succ, i64_w, i32_w]
          rfl
        refine pure_ (i := 25) (N := some 36) (v := ?_) (a' := ?_) #[true, true, true, true, true, true, true, true, true, true, true, true, true, true, true, true, true, true, true, true, true, true, true, true, true, true, false, false, false, false, true, false, false, false] rfl rfl (by kernel_rfl) (fun _ _ _ h => h) (Or.inl ⟨by rfl, ?_⟩) ?_ ?_
        rotate_left
        · intro w'
          go_simp
          with_reducible rfl
        rotate_left
        · simp only [Act.put, List.setIfInBounds_toArray, List.set_cons_zero, List.set_cons_succ, i64_w, i32_w]
          rfl
        refine pure_ (i := 26) (N := some 62) (v := ?_) (a' := ?_) #[true, true, true, true, true, true, true, true, true, true, true, true, true, true, true, true, true, true, true, true, true, true, true, true, true, true, true, false, false, false, true, false, false, false] rfl rfl (by kernel_rfl) (fun _ _ _ h => h) (Or.inl ⟨by rfl, ?_⟩) ?_ ?_
        rotate_left
        · intro w'
          go_simp
          with_reducible rfl
        rotate_left
        · simp only [Act.put, List.setIfInBounds_toArray, List.set_cons_zero, List.set_cons_succ, i64_w, i32_w]
          rfl
        refine pure_ (i := 27) (N := some 63) (v := ?_) (a' := ?_) #[true, true, true, true, true, true, true, true, true, true, true, true, true, true, true, true, true, true, true, true, true, true, true, true, true, true, true, true, false, false, true, false, false, false] rfl rfl (by kernel_rfl) (fun _ _ _ h => h) (Or.inl ⟨by rfl, ?_⟩) ?_ ?_
        rotate_left
        · intro w'
          go_simp
          with_reducible rfl
        rotate_left
        · simp only [Act.put, List.setIfInBounds_toArray, List.set_cons_zero, List.set_cons_succ, i64_w, i32_w]
          rfl
        refine pure_ (i := 28) (N := some 64) (v := ?_) (a' := ?_) #[true, true, true, true, true, true, true, true, true, true, true, true, true, true, true, true, true, true, true, true, true, true, true, true, true, true, true, true, true, false, true, false, false, false] rfl rfl (by kernel_rfl) (fun _ _ _ h => h) (Or.inl ⟨by rfl, ?_⟩) ?_ ?_
        rotate_left
        · intro w'
          go_simp
          with_reducible rfl
        rotate_left
        · simp only [Act.put, List.setIfInBounds_toArray, List.set_cons_zero, List.set_cons_succ, i64_w, i32_w]
          rfl
        refine one_ (i := 29) (N := some 6) #[true, true, true, true, true, true, true, true, true, true, true, true, true, true, true, true, true, true, true, true, true, true, true, true, true, true, true, true, true, true, true, false, false, false] rfl rfl (by kernel_rfl) (by decide) (fun K hK => ?_)
        refine value_ (w1 := ?_) (v := ?_) (by rfl) rfl ?_ ?_
        rotate_left 2
        · go_simp
          constructor
          · rfl
          · rfl
        have HX := Aside0.mk (HX.out.boxedN (w3.heap.size) (by first | rfl | simp) stateZ 42 rfl)
        have HV1 := Aside0.mk (Kd.V_alloc HV1.out (.cells stateZ 42))
        have HV2 := Aside0.mk (Kd.V_alloc HV2.out (.cells stateZ 42))
        refine hK.out _ _ ⟨(HX.out.cells HHx.out HHd.out).1, (HX.out.cells HHx.out HHd.out).2.1, blk_cell (HX.out.cells HHx.out HHd.out).2.2 0, blk_cell (HX.out.cells HHx.out HHd.out).2.2 1, blk_cell (HX.out.cells HHx.out HHd.out).2.2 2, blk_cell (HX.out.cells HHx.out HHd.out).2.2 4⟩ (fun hHeld => ?_)
        clear hK K
        refine norm_ (a' := ?_) ?_ ?_
        rotate_left
        · show Act.put _ (some 6) _ = _
          simp only [Act.put, List.setIfInBounds_toArray, List.set_cons_zero, List.set_cons_succ, i64_w, i32_w]
          rfl
        exact norm_ (by first | (simp only [putAll, Act.put, List.setIfInBounds_toArray, List.set_cons_zero, List.set_cons_succ]; done) | (simp only [putAll, Act.put, List.setIfInBounds_toArray, List.set_cons_zero, List.set_cons_succ]; rfl)) (hCont (w3.heap.size, w1.heap.size, B1, d1, B2, d2) _ ⟨pp', K', HX.out, HV1.out, HV2.out⟩)
      · skip
        refine value_ (w1 := ?_) (v := ?_) (by rfl) rfl ?_ ?_
        rotate_left 2
        · go_simp
          constructor
          · rfl
          · rfl
        have HX := Aside0.mk (HX.out.boxedN (w1.heap.size + 1) (by first | rfl | simp) stateZ 42 rfl)
        refine hK.out _ _ ⟨(HX.out.cells HHx.out HHd.out).1, (HX.out.cells HHx.out HHd.out).2.1, blk_cell (HX.out.cells HHx.out HHd.out).2.2 0, blk_cell (HX.out.cells HHx.out HHd.out).2.2 1, blk_cell (HX.out.cells HHx.out HHd.out).2.2 2, blk_cell (HX.out.cells HHx.out HHd.out).2.2 4⟩ (fun hHeld => ?_)
        clear hK K
        refine norm_ (a' := ?_) ?_ ?_
        rotate_left
        · show Act.put _ (some 6) _ = _
          simp only [Act.put, List.setIfInBounds_toArray, List.set_cons_zero, List.set_cons_succ, i64_w, i32_w]
          rfl
        refine one_ (i := 24) (N := some 61) #[true, true, true, true, true, true, true, true, true, true, true, true, true, true, true, true, true, true, true, true, true, true, true, true, true, false, false, false, false, true, true, false, false, false] rfl rfl (by kernel_rfl) (by decide) (fun K hK => ?_)
        refine goes_ Try.func40 (by kernel_rfl) rfl #[.slice d.A x.code.length d.c, .agg #[.int .i64 r.s.pc, .slice e.A1 r.s.st.length e.c1, .slice e.A2 r.s.ca.length e.c2], .iface 94 (.pointer (some ⟨g, 1, none⟩)), .int .i64 (if r.fuel < ticks then r.fuel else ticks)] (by rfl) rfl rfl (by simp only [List.map_toArray, List.map_cons, List.map_nil]; rfl) ?_
        with_reducible refine ((runN (HX.out.step (below_drew (Below.refl _ _))) HHx.out HHd.out hn0 hn1 HHR.out HN.out)).mono ?_
        rintro e_ w3 ⟨B1, d1, B2, d2, pp', K', rfl, hX, hv1, hv2⟩
        refine ⟨_, rfl, ?_⟩
        have HX := Aside0.mk hX
        have HV1 := Aside0.mk hv1
        have HV2 := Aside0.mk hv2
        clear hX hv1 hv2
        refine hK.out _ _ ⟨(HX.out.cells HHx.out HHd.out).1, (HX.out.cells HHx.out HHd.out).2.1, blk_cell (HX.out.cells HHx.out HHd.out).2.2 0, blk_cell (HX.out.cells HHx.out HHd.out).2.2 1, blk_cell (HX.out.cells HHx.out HHd.out).2.2 2, blk_cell (HX.out.cells HHx.out HHd.out).2.2 4⟩ (fun hHeld => ?_)
        clear hK K
        refine norm_ (a' := ?_) ?_ ?_
        rotate_left
        · show Act.put _ (some 61) _ = _
          simp only [Act.put, List.setIfInBounds_toArray, List.set_cons_zero, List.set_cons_succ, i64_w, i32_w]
          rfl
        refine pure_ (i := 25) (N := some 36) (v := ?_) (a' := ?_) #[true, true, true, true, true, true, true, true, true, true, true, true, true, true, true, true, true, true, true, true, true, true, true, true, true, true, false, false, false, true, true, false, false, false] rfl rfl (by kernel_rfl) (fun _ _ _ h => h) (Or.inl ⟨by rfl, ?_⟩) ?_ ?_
        rotate_left
        · intro w'
          go_simp
          with_reducible rfl
        rotate_left
        · simp only [Act.put, List.setIfInBounds_toArray, List.set_cons_zero, List.set_cons_succ, i64_w, i32_w]
          rfl
        refine pure_ (i := 26) (N := some 62) (v := ?_) (a' := ?_) #[true, true, true, true, true, true, true, true, true, true, true, true, true, true, true, true, true, true, true, true, true, true, true, true, true, true, true, false, false, true, true, false, false, false] rfl rfl (by kernel_rfl) (fun _ _ _ h => h) (Or.inl ⟨by rfl, ?_⟩) ?_ ?_
        rotate_left
        · intro w'
          go_simp
          with_reducible rfl
        rotate_left
        · simp only [Act.put, List.setIfInBounds_toArray, List.set_cons_zero, List.set_cons_succ, i64_w, i32_w]
          rfl
        refine pure_ (i := 27) (N := some 63) (v := ?_) (a' := ?_) #[true, true, true, true, true, true, true, true, true, true, true, true, true, true, true, true, true, true, true, true, true, true, true, true, true, true, true, true, false, true, true, false, false, false] rfl rfl (by kernel_rfl) (fun _ _ _ h => h) (Or.inl ⟨by rfl, ?_⟩) ?_ ?_
        rotate_left
        · intro w'
          go_simp
          with_reducible rfl
        rotate_left
        · simp only [Act.put, List.setIfInBounds_toArray, List.set_cons_zero, List.set_cons_succ, i64_w, i32_w]
          rfl
        refine pure_ (i := 28) (N := some 64) (v := ?_) (a' := ?_) #[true, true, true, true, true, true, true, true, true, true, true, true, true, true, true, true, true, true, true, true, true, true, true, true, true, true, true, true, true, true, true, false, false, false] rfl rfl (by kernel_rfl) (fun _ _ _ h => h) (Or.inl ⟨by rfl, ?_⟩) ?_ ?_
        rotate_left
        · intro w'
          go_simp
          with_reducible rfl
        rotate_left
        · simp only [Act.put, List.setIfInBounds_toArray, List.set_cons_zero, List.set_cons_succ, i64_w, i32_w]
          rfl
        exact norm_ (by first | (simp only [putAll, Act.put, List.setIfInBounds_toArray, List.set_cons_zero, List.set_cons_succ]; done) | (simp only [putAll, Act.put, List.setIfInBounds_toArray, List.set_cons_zero, List.set_cons_succ]; rfl)) (hCont (w1.heap.size + 1, w1.heap.size, B1, d1, B2, d2) _ ⟨pp', K', HX.out, HV1.out, HV2.out⟩)
  rintro ⟨n6, n7, B1, d1, B2, d2⟩ w6 ⟨pp', K', hF, hv1, hv2⟩
  dsimp only at hF hv1 hv2
  have a0_ := blk_cell (hF.box m0E) 0
  have a1_ := blk_cell (hF.box m0E) 1
  have a2_ := blk_cell (hF.box m0E) 2
  have b0_ := blk_cell (hF.box m1E) 0
  have b1_ := blk_cell (hF.box m1E) 1
  have b2_ := blk_cell (hF.box m1E) 2
  have f0_ := blk_frozen (hF.box m0E) 0
  have f1_ := blk_frozen (hF.box m0E) 1
  have f2_ := blk_frozen (hF.box m0E) 2
  have g0_ := blk_frozen (hF.box m1E) 0
  have g1_ := blk_frozen (hF.box m1E) 1
  have g2_ := blk_frozen (hF.box m1E) 2
  have hne : n6 ≠ n7 := nd01 hF.nd
  have hne2 : n7 ≠ n6 := fun e => hne e.symm
  have HF := Aside0.mk hF
  have HV1 := Aside0.mk hv1
  have HV2 := Aside0.mk hv2
  clear hF hv1 hv2
  have hHeld := True.intro
  refine norm_ (a' := ?_) ?_ ?_
  rotate_left
  · simp only [putAll, Act.put, List.setIfInBounds_toArray, List.set_cons_zero, List.set_cons_succ]
    rfl
  refine last_ (i := 31) (N := none) #[true, true, true, true, true, true, true, true, true, true, true, true, true, true, true, true, true, true, true, true, true, true, true, true, true, true, true, true, true, true, true, true, false, false] rfl rfl (by kernel_rfl) (by decide) (fun K hK => ?_)
  refine skip_ (w1 := ?_) (by rfl) rfl ?_ ?_
  rotate_left
  · go_simp
    rfl
  refine hK.out _ _ ?_
  clear hK K
  refine last_ (i := 32) (N := none) #[true, true, true, true, true, true, true, true, true, true, true, true, true, true, true, true, true, true, true, true, true, true, true, true, true, true, true, true, true, true, true, true, true, false] rfl rfl (by kernel_rfl) (by decide) (fun K hK => ?_)
  refine skip_ (w1 := ?_) (by rfl) rfl ?_ ?_
  rotate_left
  · go_simp
    rfl
  refine hK.out _ _ ?_
  clear hK K
  refine pure_ (i := 33) (N := some 8) (v := ?_) (a' := ?_) #[true, true, true, true, true, true, true, true, true, true, true, true, true, true, true, true, true, true, true, true, true, true, true, true, true, true, true, true, true, true, true, true, true, true] rfl rfl (by kernel_rfl) (fun _ _ _ h => h) (Or.inl ⟨by rfl, ?_⟩) ?_ ?_
  rotate_left
  · intro w'
    go_simp
    with_reducible rfl
  rotate_left
  · simp only [Act.put, List.setIfInBounds_toArray, List.set_cons_zero, List.set_cons_succ, i64_w, i32_w]
    rfl
  refine done_ (by kernel_rfl) ?_

  have h6 := HF.out.set3 (.int .i64 R.s.pc) (.slice B1 R.s.st.length d1) (.slice B2 R.s.ca.length d2)
  have h7 := (h6.sub [(n7, stopZ, 53), (n6, #[.int .i64 R.s.pc, .slice B1 R.s.st.length d1, .slice B2 R.s.ca.length d2], 42), (W.heap.size, stopZ, 53)] (fun b hb => swap3 hb) (nd3 h6.nd)).set3 (.int .i64 R.kind) (.int .i64 R.trap) (.int .i64 R.used)
  have kn6 : ∀ k, K' k → k ≠ n6 := fun k hk e1 => (HF.out.bx _ m0E).2.2.2 (e1 ▸ hk)
  have kn7 : ∀ k, K' k → k ≠ n7 := fun k hk e1 => (HF.out.bx _ m1E).2.2.2 (e1 ▸ hk)
  have hv1 := Kd.V_far (p := ⟨n7, 2, none⟩) (Kd.V_far (p := ⟨n7, 1, none⟩) (Kd.V_far (p := ⟨n7, 0, none⟩) (Kd.V_far (p := ⟨n6, 2, none⟩) (Kd.V_far (p := ⟨n6, 1, none⟩) (Kd.V_far (p := ⟨n6, 0, none⟩) HV1.out kn6 (.int .i64 R.s.pc)) kn6 (.slice B1 R.s.st.length d1)) kn6 (.slice B2 R.s.ca.length d2)) kn7 (.int .i64 R.kind)) kn7 (.int .i64 R.trap)) kn7 (.int .i64 R.used)
  have hv2 := Kd.V_far (p := ⟨n7, 2, none⟩) (Kd.V_far (p := ⟨n7, 1, none⟩) (Kd.V_far (p := ⟨n7, 0, none⟩) (Kd.V_far (p := ⟨n6, 2, none⟩) (Kd.V_far (p := ⟨n6, 1, none⟩) (Kd.V_far (p := ⟨n6, 0, none⟩) HV2.out kn6 (.int .i64 R.s.pc)) kn6 (.slice B1 R.s.st.length d1)) kn6 (.slice B2 R.s.ca.length d2)) kn7 (.int .i64 R.kind)) kn7 (.int .i64 R.trap)) kn7 (.int .i64 R.used)
  clear h6 kn6 kn7 HF HV1 HV2 HX hHeld hne hne2 a0_ a1_ a2_ b0_ b1_ b2_ f0_ f1_ f2_ g0_ g1_ g2_ c0 c1 q0 q1 q2 q4 q5
  generalize hw7 : World.setCell _ _ _ = w7 at *
  clear hw7
  have HV1 := Aside0.mk hv1
  have HV2 := Aside0.mk hv2
  obtain ⟨_, c1, hbx⟩ := h7.cells (r := r) (e := e) HHx.out HHd.out
  have a0 : w7.cell? ⟨n6, 0, none⟩ = some (.int .i64 R.s.pc) := blk_cell (h7.box m1E) 0
  have a1 : w7.cell? ⟨n6, 1, none⟩ = some (.slice B1 R.s.st.length d1) := blk_cell (h7.box m1E) 1
  have a2 : w7.cell? ⟨n6, 2, none⟩ = some (.slice B2 R.s.ca.length d2) := blk_cell (h7.box m1E) 2
  have q0 : w7.cell? ⟨e.rb, 0, none⟩ = some (.int .i64 r.s.pc) := blk_cell hbx 0
  have q1 : w7.cell? ⟨e.rb, 1, none⟩ = some (.slice e.A1 r.s.st.length e.c1) := blk_cell hbx 1
  have q2 : w7.cell? ⟨e.rb, 2, none⟩ = some (.slice e.A2 r.s.ca.length e.c2) := blk_cell hbx 2
  have f0 := blk_frozen hbx 0
  have f1 := blk_frozen hbx 1
  have f2 := blk_frozen hbx 2
  have HX7 := Aside0.mk h7
  have HBx := Aside0.mk hbx
  clear h7 hv1 hv2 hbx
  go_upto_region 6 with (fail)
  refine start_ (n := 8) (S := fun w' => w'.cell? ⟨g, 18, none⟩ = some (.pointer (some ⟨e.rb, 0, none⟩)) ∧ w'.cell? ⟨n6, 0, none⟩ = some (.int .i64 R.s.pc) ∧ w'.cell? ⟨n6, 1, none⟩ = some (.slice B1 R.s.st.length d1) ∧ w'.cell? ⟨n6, 2, none⟩ = some (.slice B2 R.s.ca.length d2)) (ds := [7]) #[false, false, false, false, false, false, false, false] (by kernel_rfl) rfl rfl ⟨c1, a0, a1, a2⟩ (fun hHeld => ?_)
  refine pure_ (i := 0) (N := some 65) (v := ?_) (a' := ?_) #[true, false, false, false, false, false, false, false] rfl rfl (by kernel_rfl) (fun _ _ _ h => h) (Or.inl ⟨by rfl, ?_⟩) ?_ ?_
  rotate_left
  · intro w'
    go_simp
    with_reducible rfl
  rotate_left
  · simp only [Act.put, List.setIfInBounds_toArray, List.set_cons_zero, List.set_cons_succ, i64_w, i32_w]
    rfl
  refine pure_ (i := 1) (N := some 66) (v := ?_) (a' := ?_) #[true, true, false, false, false, false, false, false] rfl rfl (by kernel_rfl) (fun _ _ _ h => h) (Or.inl ⟨by rfl, ?_⟩) ?_ ?_
  rotate_left
  · intro w'
    go_simp
    with_reducible rfl
  rotate_left
  · simp only [Act.put, List.setIfInBounds_toArray, List.set_cons_zero, List.set_cons_succ, i64_w, i32_w]
    rfl
  refine pure_ (i := 2) (N := some 67) (v := ?_) (a' := ?_) #[true, true, true, false, false, false, false, false] rfl rfl (by kernel_rfl) (fun _ _ _ h => h) (Or.inl ⟨by rfl, ?_⟩) ?_ ?_
  rotate_left
  · intro w'
    go_simp
    with_reducible rfl
  rotate_left
  · simp only [Act.put, List.setIfInBounds_toArray, List.set_cons_zero, List.set_cons_succ, i64_w, i32_w]
    rfl
  refine take_ (i := 3) (N := some 68) (v := ?_) (a' := ?_) #[true, true, true, true, false, false, false, false] rfl rfl (by kernel_rfl) (fun _ _ _ h => h) (Or.inl ⟨by rfl, ?_⟩) hHeld ?_ ?_
  rotate_left
  · rintro w' ⟨s0, s1, s2, s3⟩
    go_simp
    with_reducible rfl
  rotate_left
  · simp only [Act.put, List.setIfInBounds_toArray, List.set_cons_zero, List.set_cons_succ, i64_w, i32_w]
    rfl
  refine take_ (i := 4) (N := some 69) (v := ?_) (a' := ?_) #[true, true, true, true, true, false, false, false] rfl rfl (by kernel_rfl) (fun _ _ _ h => h) (Or.inl ⟨by rfl, ?_⟩) hHeld ?_ ?_
  rotate_left
  · rintro w' ⟨s0, s1, s2, s3⟩
    go_simp
    with_reducible rfl
  rotate_left
  · simp only [Act.put, List.setIfInBounds_toArray, List.set_cons_zero, List.set_cons_succ, i64_w, i32_w]
    rfl
  refine pure_ (i := 5) (N := some 70) (v := ?_) (a' := ?_) #[true, true, true, true, true, true, false, false] rfl rfl (by kernel_rfl) (fun _ _ _ h => h) (Or.inl ⟨by rfl, ?_⟩) ?_ ?_
  rotate_left
  · intro w'
    go_simp
    with_reducible rfl
  rotate_left
  · simp only [Act.put, List.setIfInBounds_toArray, List.set_cons_zero, List.set_cons_succ, i64_w, i32_w]
    rfl
  refine pure_ (i := 6) (N := some 71) (v := ?_) (a' := ?_) #[true, true, true, true, true, true, true, false] rfl rfl (by kernel_rfl) (fun _ _ _ h => h) (Or.inl ⟨by rfl, ?_⟩) ?_ ?_
  rotate_left
  · intro w'
    go_simp
    with_reducible rfl
  rotate_left
  · simp only [Act.put, List.setIfInBounds_toArray, List.set_cons_zero, List.set_cons_succ, i64_w, i32_w]
    rfl
  refine last_ (i := 7) (N := none) #[true, true, true, true, true, true, true, true] rfl rfl (by kernel_rfl) (by decide) (fun K hK => ?_)
  refine skip_ (w1 := ?_) (by rfl) rfl ?_ ?_
  rotate_left
  · go_simp
    rfl
  refine hK.out _ _ ?_
  clear hK K
  refine done_ (by kernel_rfl) ?_

  have hm8 : Mv w7 (((w7.setCell ⟨e.rb, 0, none⟩ (.int .i64 R.s.pc)).setCell ⟨e.rb, 1, none⟩ (.slice B1 R.s.st.length d1)).setCell ⟨e.rb, 2, none⟩ (.slice B2 R.s.ca.length d2)) (fun k => k = e.rb) := Mv.set (S := fun k => k = e.rb) (Mv.set (S := fun k => k = e.rb) (Mv.set (S := fun k => k = e.rb) (Mv.refl _ _) (p := ⟨e.rb, 0, none⟩) (.inl rfl) _) (p := ⟨e.rb, 1, none⟩) (.inl rfl) _) (p := ⟨e.rb, 2, none⟩) (.inl rfl) _
  have hto := ran_to (m := memO x d) HQ.out.2.2 HQ.out.2.1 hn0 hn1
  rw [HHR.out] at hto
  have h8 := HX7.out.rq (r := r) (r' := ⟨R.s, r.text, r.fuel, r.tr⟩) (e := e) (e' := ⟨e.rb, B1, d1, B2, d2⟩) HHx.out HHd.out hm8 rfl (blk_set (blk_set (blk_set HBx.out 0 _) 1 _) 2 _) HV1.out HV2.out hto.may HQ.out.1
  have hru := hto.u0
  have hrf : R.used ≤ r.fuel := by have := hto.u1; have hN := HN.out; split at hN <;> omega
  have HTo := Aside0.mk hto
  clear hm8 hto
  generalize hw8 : (((w7.setCell ⟨e.rb, 0, none⟩ (.int .i64 R.s.pc)).setCell ⟨e.rb, 1, none⟩ (.slice B1 R.s.st.length d1)).setCell ⟨e.rb, 2, none⟩ (.slice B2 R.s.ca.length d2)) = w8 at *
  obtain ⟨_, c1, hbx⟩ := h8.cells (r := ⟨R.s, r.text, r.fuel, r.tr⟩) (e := ⟨e.rb, B1, d1, B2, d2⟩) rfl rfl
  have a0 : w8.cell? ⟨n7, 0, none⟩ = some (.int .i64 R.kind) := blk_cell (h8.box m0E) 0
  have a2 : w8.cell? ⟨n7, 2, none⟩ = some (.int .i64 R.used) := blk_cell (h8.box m0E) 2
  have q4 : w8.cell? ⟨e.rb, 4, none⟩ = some (.int .i64 r.fuel) := blk_cell hbx 4
  have f4 := blk_frozen hbx 4
  have HX8 := Aside0.mk h8
  have HBx := Aside0.mk hbx
  clear h8 hbx HX7 hw8 a1 q0 q1 q2 f0 f1 f2 HV1 HV2
  go_upto_region 7 with (fail)
  refine start_ (n := 13) (S := fun w' => w'.cell? ⟨g, 18, none⟩ = some (.pointer (some ⟨e.rb, 0, none⟩)) ∧ w'.cell? ⟨n7, 2, none⟩ = some (.int .i64 R.used) ∧ w'.cell? ⟨e.rb, 4, none⟩ = some (.int .i64 r.fuel)) (ds := [12]) #[false, false, false, false, false, false, false, false, false, false, false, false, false] (by kernel_rfl) rfl rfl ⟨c1, a2, q4⟩ (fun hHeld => ?_)
  refine pure_ (i := 0) (N := some 72) (v := ?_) (a' := ?_) #[true, false, false, false, false, false, false, false, false, false, false, false, false] rfl rfl (by kernel_rfl) (fun _ _ _ h => h) (Or.inl ⟨by rfl, ?_⟩) ?_ ?_
  rotate_left
  · intro w'
    go_simp
    with_reducible rfl
  rotate_left
  · simp only [Act.put, List.setIfInBounds_toArray, List.set_cons_zero, List.set_cons_succ, i64_w, i32_w]
    rfl
  refine pure_ (i := 1) (N := some 73) (v := ?_) (a' := ?_) #[true, true, false, false, false, false, false, false, false, false, false, false, false] rfl rfl (by kernel_rfl) (fun _ _ _ h => h) (Or.inl ⟨by rfl, ?_⟩) ?_ ?_
  rotate_left
  · intro w'
    go_simp
    with_reducible rfl
  rotate_left
  · simp only [Act.put, List.setIfInBounds_toArray, List.set_cons_zero, List.set_cons_succ, i64_w, i32_w]
    rfl
  refine pure_ (i := 2) (N := some 74) (v := ?_) (a' := ?_) #[true, true, true, false, false, false, false, false, false, false, false, false, false] rfl rfl (by kernel_rfl) (fun _ _ _ h => h) (Or.inl ⟨by rfl, ?_⟩) ?_ ?_
  rotate_left
  · intro w'
    go_simp
    with_reducible rfl
  rotate_left
  · simp only [Act.put, List.setIfInBounds_toArray, List.set_cons_zero, List.set_cons_succ, i64_w, i32_w]
    rfl
  refine pure_ (i := 7) (N := some 79) (v := ?_) (a' := ?_) #[true, true, true, false, false, false, false, true, false, false, false, false, false] rfl rfl (by kernel_rfl) (fun _ _ _ h => h) (Or.inl ⟨by rfl, ?_⟩) ?_ ?_
  rotate_left
  · intro w'
    go_simp
    with_reducible rfl
  rotate_left
  · simp only [Act.put, List.setIfInBounds_toArray, List.set_cons_zero, List.set_cons_succ, i64_w, i32_w]
    rfl
  refine take_ (i := 3) (N := some 75) (v := ?_) (a' := ?_) #[true, true, true, true, false, false, false, true, false, false, false, false, false] rfl rfl (by kernel_rfl) (fun _ _ _ h => h) (Or.inl ⟨by rfl, ?_⟩) hHeld ?_ ?_
  rotate_left
  · rintro w' ⟨s0, s1, s2⟩
    go_simp
    with_reducible rfl
  rotate_left
  · simp only [Act.put, List.setIfInBounds_toArray, List.set_cons_zero, List.set_cons_succ, i64_w, i32_w]
    rfl
  refine pure_ (i := 4) (N := some 76) (v := ?_) (a' := ?_) #[true, true, true, true, true, false, false, true, false, false, false, false, false] rfl rfl (by kernel_rfl) (fun _ _ _ h => h) (Or.inl ⟨by rfl, ?_⟩) ?_ ?_
  rotate_left
  · intro w'
    go_simp
    with_reducible rfl
  rotate_left
  · simp only [Act.put, List.setIfInBounds_toArray, List.set_cons_zero, List.set_cons_succ, i64_w, i32_w]
    rfl
  refine pure_ (i := 5) (N := some 77) (v := ?_) (a' := ?_) #[true, true, true, true, true, true, false, true, false, false, false, false, false] rfl rfl (by kernel_rfl) (fun _ _ _ h => h) (Or.inl ⟨by rfl, ?_⟩) ?_ ?_
  rotate_left
  · intro w'
    go_simp
    with_reducible rfl
  rotate_left
  · simp only [Act.put, List.setIfInBounds_toArray, List.set_cons_zero, List.set_cons_succ, i64_w, i32_w]
    rfl
  refine take_ (i := 6) (N := some 78) (v := ?_) (a' := ?_) #[true, true, true, true, true, true, true, true, false, false, false, false, false] rfl rfl (by kernel_rfl) (fun _ _ _ h => h) (Or.inl ⟨by rfl, ?_⟩) hHeld ?_ ?_
  rotate_left
  · rintro w' ⟨s0, s1, s2⟩
    go_simp
    with_reducible rfl
  rotate_left
  · simp only [Act.put, List.setIfInBounds_toArray, List.set_cons_zero, List.set_cons_succ, i64_w, i32_w]
    rfl
  refine take_ (i := 8) (N := some 80) (v := ?_) (a' := ?_) #[true, true, true, true, true, true, true, true, true, false, false, false, false] rfl rfl (by kernel_rfl) (fun _ _ _ h => h) (Or.inl ⟨by rfl, ?_⟩) hHeld ?_ ?_
  rotate_left
  · rintro w' ⟨s0, s1, s2⟩
    go_simp
    with_reducible rfl
  rotate_left
  · simp only [Act.put, List.setIfInBounds_toArray, List.set_cons_zero, List.set_cons_succ, i64_w, i32_w]
    rfl
  refine pure_ (i := 9) (N := some 81) (v := ?_) (a' := ?_) #[true, true, true, true, true, true, true, true, true, true, false, false, false] rfl rfl (by kernel_rfl) (fun _ _ _ h => h) (Or.inl ⟨by rfl, ?_⟩) ?_ ?_
  rotate_left
  · intro w'
    go_simp
    with_reducible rfl
  rotate_left
  · simp only [Act.put, List.setIfInBounds_toArray, List.set_cons_zero, List.set_cons_succ, i64_w, i32_w]
    rfl
  refine pure_ (i := 10) (N := some 82) (v := ?_) (a' := ?_) #[true, true, true, true, true, true, true, true, true, true, true, false, false] rfl rfl (by kernel_rfl) (fun _ _ _ h => h) (Or.inl ⟨by rfl, ?_⟩) ?_ ?_
  rotate_left
  · intro w'
    go_simp
    with_reducible rfl
  rotate_left
  · simp only [Act.put, List.setIfInBounds_toArray, List.set_cons_zero, List.set_cons_succ, i64_w, i32_w]
    rfl
  refine pure_ (i := 11) (N := some 83) (v := ?_) (a' := ?_) #[true, true, true, true, true, true, true, true, true, true, true, true, false] rfl rfl (by kernel_rfl) (fun _ _ _ h => h) (Or.inl ⟨by rfl, ?_⟩) ?_ ?_
  rotate_left
  · intro w'
    go_simp
    with_reducible rfl
  rotate_left
  · simp only [Act.put, List.setIfInBounds_toArray, List.set_cons_zero, List.set_cons_succ, i64_w, i32_w]
    rfl
  refine last_ (i := 12) (N := none) #[true, true, true, true, true, true, true, true, true, true, true, true, true] rfl rfl (by kernel_rfl) (by decide) (fun K hK => ?_)
  refine skip_ (w1 := ?_) (by rfl) rfl ?_ ?_
  rotate_left
  · go_simp
    rfl
  refine hK.out _ _ ?_
  clear hK K
  refine done_ (by kernel_rfl) ?_

  obtain ⟨_, c1, hbx⟩ := HX8.out.cells (r := ⟨R.s, r.text, r.fuel, r.tr⟩) (e := ⟨e.rb, B1, d1, B2, d2⟩) rfl rfl
  have hm9 : Mv w8 (w8.setCell ⟨e.rb, 4, none⟩ (.int .i64 (wrap64 (r.fuel - R.used)))) (fun k => k = e.rb) := Mv.set (S := fun k => k = e.rb) (Mv.refl _ _) (p := ⟨e.rb, 4, none⟩) (.inl rfl) _
  have hwr : wrap64 (r.fuel - R.used) = r.fuel - R.used := by have := HQ.out.1; unfold wrap64; omega
  have h9 := HX8.out.rq (r := ⟨R.s, r.text, r.fuel, r.tr⟩) (e := ⟨e.rb, B1, d1, B2, d2⟩) (r' := ⟨R.s, r.text, r.fuel - R.used, r.tr⟩) (e' := ⟨e.rb, B1, d1, B2, d2⟩) rfl rfl hm9 rfl (by have := blk_set hbx 4 (.int .i64 (wrap64 (r.fuel - R.used))); rw [hwr] at this ⊢; exact this) (EpAt.vst HX8.out.ep (r := ⟨R.s, r.text, r.fuel, r.tr⟩) (e := ⟨e.rb, B1, d1, B2, d2⟩) rfl rfl) (EpAt.vca HX8.out.ep (r := ⟨R.s, r.text, r.fuel, r.tr⟩) (e := ⟨e.rb, B1, d1, B2, d2⟩) rfl rfl) HTo.out.may (by have := HQ.out.1; show 0 ≤ r.fuel - R.used ∧ r.fuel - R.used ≤ 1048576; omega)
  clear hm9 hbx c1
  generalize hw9 : w8.setCell ⟨e.rb, 4, none⟩ (.int .i64 (wrap64 (r.fuel - R.used))) = w9 at *
  obtain ⟨_, c1, hbx⟩ := h9.cells (r := ⟨R.s, r.text, r.fuel - R.used, r.tr⟩) (e := ⟨e.rb, B1, d1, B2, d2⟩) rfl rfl
  have a0 : w9.cell? ⟨n7, 0, none⟩ = some (.int .i64 R.kind) := blk_cell (h9.box m0E) 0
  have a1 : w9.cell? ⟨n7, 1, none⟩ = some (.int .i64 R.trap) := blk_cell (h9.box m0E) 1
  have a2 : w9.cell? ⟨n7, 2, none⟩ = some (.int .i64 R.used) := blk_cell (h9.box m0E) 2
  have q4 : w9.cell? ⟨e.rb, 4, none⟩ = some (.int .i64 (r.fuel - R.used)) := blk_cell hbx 4
  have f5 := blk_frozen hbx 5
  have q5 : w9.cell? ⟨e.rb, 5, none⟩ = some (.bool r.tr) := blk_cell hbx 5
  have e0 := blk_frozen (h9.box m2E) 0
  have e1 := blk_frozen (h9.box m2E) 1
  have e2 := blk_frozen (h9.box m2E) 2
  obtain ⟨_, _, f18, _⟩ := h9.ep.cells
  have HX9 := Aside0.mk h9
  have HBx := Aside0.mk hbx
  have hg9 : W.heap.size ≠ g := by rintro rfl; exact (h9.bx _ m2E).2.2.1 (.inl rfl)
  have hg8 : W.heap.size ≠ e.rb := by intro e1; exact (h9.bx _ m2E).2.2.1 (.inr (.inr ⟨_, rfl, e1⟩))
  have hg7 : n7 ≠ g := by rintro rfl; exact (h9.bx _ m0E).2.2.1 (.inl rfl)
  have hg6 : n7 ≠ e.rb := by intro e1; exact (h9.bx _ m0E).2.2.1 (.inr (.inr ⟨_, rfl, e1⟩))
  clear h9 hbx hw9 HX8
  go_upto_region 8 with (fail)
  generalize (if r.fuel < ticks then r.fuel else ticks) = nn
  have e3 : w9.cell? ⟨W.heap.size, 0, none⟩ = some (.int .i64 0) := blk_cell (HX9.out.box m2E) 0
  have e4 : w9.cell? ⟨W.heap.size, 1, none⟩ = some (.int .i64 0) := blk_cell (HX9.out.box m2E) 1
  have e5 : w9.cell? ⟨W.heap.size, 2, none⟩ = some (.int .i64 0) := blk_cell (HX9.out.box m2E) 2
  by_cases hk2 : R.kind = 2
  · have t2 : decide (R.kind = 2) = true := decide_eq_true hk2
    have t3 : (R.kind == 2) = true := beq_iff_eq.2 hk2
    have HK2 := Aside0.mk hk2
    have hmt : Mv w9 (w9.setCell ⟨e.rb, 5, none⟩ (.bool true)) (fun k => k = e.rb) := Mv.set (S := fun k => k = e.rb) (Mv.refl _ _) (p := ⟨e.rb, 5, none⟩) (.inl rfl) _
    have hrn := HX9.out.rq (r := ⟨R.s, r.text, r.fuel - R.used, r.tr⟩) (e := ⟨e.rb, B1, d1, B2, d2⟩) (r' := ⟨R.s, r.text, r.fuel - R.used, true⟩) (e' := ⟨e.rb, B1, d1, B2, d2⟩) rfl rfl hmt rfl (blk_set HBx.out 5 (.bool true)) (EpAt.vst HX9.out.ep (r := ⟨R.s, r.text, r.fuel - R.used, r.tr⟩) (e := ⟨e.rb, B1, d1, B2, d2⟩) rfl rfl) (EpAt.vca HX9.out.ep (r := ⟨R.s, r.text, r.fuel - R.used, r.tr⟩) (e := ⟨e.rb, B1, d1, B2, d2⟩) rfl rfl) HTo.out.may (by have := HQ.out.1; show 0 ≤ r.fuel - R.used ∧ r.fuel - R.used ≤ 1048576; omega)
    have HA := Aside0.mk (show aftX r R = some ⟨R.s, r.text, r.fuel - R.used, true⟩ by unfold aftX; rw [if_pos hk2])
    clear hmt hk2
    have HRN := Aside0.mk hrn
    clear hrn
    go_wp2
    have hz := RnEnd HRN.out
    obtain ⟨⟨z0, z1, z2⟩, hz⟩ := hz
    rw [← HA.out] at hz
    exact bodyPost_ret (v := .tuple #[.agg #[.int .i64 R.kind, .int .i64 R.trap, .int .i64 R.used], .int .i64 0]) (by simp [results, Try.results17, go_sem, z0, z1, z2]) rfl ⟨rfl, hz⟩
  · have t2 : decide (R.kind = 2) = false := decide_eq_false hk2
    have t3 : (R.kind == 2) = false := beq_eq_false_iff_ne.2 hk2
    have HK2 := Aside0.mk hk2
    clear hk2
    by_cases hk1 : R.kind = 1
    · have t4 : decide (R.kind = 1) = true := decide_eq_true hk1
      have t5 : (R.kind == 1) = true := beq_iff_eq.2 hk1
      have HK1 := Aside0.mk hk1
      clear hk1
      by_cases hf0 : r.fuel - R.used = 0
      · have t6 : decide (r.fuel - R.used = 0) = true := decide_eq_true hf0
        have t7 : (r.fuel - R.used == 0) = true := beq_iff_eq.2 hf0
        have HA := Aside0.mk (show aftX r R = none by unfold aftX; rw [if_neg HK2.out, if_neg (fun h => h.2 hf0)])
        clear hf0
        have HRN := Aside0.mk HX9.out.clear
        go_wp2
        have hz := RnEnd HRN.out
        obtain ⟨⟨z0, z1, z2⟩, hz⟩ := hz
        rw [← HA.out] at hz
        exact bodyPost_ret (v := .tuple #[.agg #[.int .i64 R.kind, .int .i64 R.trap, .int .i64 R.used], .int .i64 0]) (by simp [results, Try.results17, go_sem, z0, z1, z2]) rfl ⟨rfl, hz⟩
      · have t6 : decide (r.fuel - R.used = 0) = false := decide_eq_false hf0
        have t7 : (r.fuel - R.used == 0) = false := beq_eq_false_iff_ne.2 hf0
        have HA := Aside0.mk (show aftX r R = some ⟨R.s, r.text, r.fuel - R.used, r.tr⟩ by unfold aftX; rw [if_neg HK2.out, if_pos ⟨HK1.out, hf0⟩])
        clear hf0
        go_wp2
        have hz := RnEnd HX9.out
        obtain ⟨⟨z0, z1, z2⟩, hz⟩ := hz
        rw [← HA.out] at hz
        exact bodyPost_ret (v := .tuple #[.agg #[.int .i64 R.kind, .int .i64 R.trap, .int .i64 R.used], .int .i64 0]) (by simp [results, Try.results17, go_sem, z0, z1, z2]) rfl ⟨rfl, hz⟩
    · have t4 : decide (R.kind = 1) = false := decide_eq_false hk1
      have t5 : (R.kind == 1) = false := beq_eq_false_iff_ne.2 hk1
      have HA := Aside0.mk (show aftX r R = none by unfold aftX; rw [if_neg HK2.out, if_neg (fun h => hk1 h.1)])
      clear hk1
      have HRN := Aside0.mk HX9.out.clear
      go_wp2
      have hz := RnEnd HRN.out
      obtain ⟨⟨z0, z1, z2⟩, hz⟩ := hz
      rw [← HA.out] at hz
      exact bodyPost_ret (v := .tuple #[.agg #[.int .i64 R.kind, .int .i64 R.trap, .int .i64 R.used], .int .i64 0]) (by simp [results, Try.results17, go_sem, z0, z1, z2]) rfl ⟨rfl, hz⟩
end
end Go.Proofs.Ytkjdhhdkfbkgpaa.VmW
namespace Go.Proofs.Ytkjdhhdkfbkgpaa.VmW
open Go.RowKit Go.Proofs.YtkjdhhdkfbkgpaaW.PrintWords Go.Proofs.YtkjdhhdkfbkgpaaW.PrintMore Go.Proofs.YtkjdhhdkfbkgpaaW.PrintLast Go.Proofs.Ytkjdhhdkfbkgpaa.Pvm
attribute [local go_sem] max2_int min2_int max_two min_two
set_option linter.unusedVariables false
set_option linter.unusedSimpArgs false
def memN (x : EpS) : Mem := ⟨x.b, x.o, .pointer none, ByteArray.empty, .pointer none⟩
theorem memK_alike : Alike memK memK (fun m n : Mem => m.b = n.b ∧ m.o = n.o) :=
  ⟨fun m n a h => ⟨by show (if 0 ≤ a ∧ a < 4096 then (rd m.b a, true) else (0, false)) = (if 0 ≤ a ∧ a < 4096 then (rd n.b a, true) else (0, false)); rw [h.1], h⟩,
   fun m n a v h _ _ => by
    show (if 0 ≤ a ∧ a < 4096 then ((⟨m.b.set a.toNat v, m.o.set (a.toNat / 256) true, m.hdr, m.img, m.now⟩ : Mem), true) else (m, false)).2 = (if 0 ≤ a ∧ a < 4096 then ((⟨n.b.set a.toNat v, n.o.set (a.toNat / 256) true, n.hdr, n.img, n.now⟩ : Mem), true) else (n, false)).2 ∧ (if 0 ≤ a ∧ a < 4096 then ((⟨m.b.set a.toNat v, m.o.set (a.toNat / 256) true, m.hdr, m.img, m.now⟩ : Mem), true) else (m, false)).1.b = (if 0 ≤ a ∧ a < 4096 then ((⟨n.b.set a.toNat v, n.o.set (a.toNat / 256) true, n.hdr, n.img, n.now⟩ : Mem), true) else (n, false)).1.b ∧ (if 0 ≤ a ∧ a < 4096 then ((⟨m.b.set a.toNat v, m.o.set (a.toNat / 256) true, m.hdr, m.img, m.now⟩ : Mem), true) else (m, false)).1.o = (if 0 ≤ a ∧ a < 4096 then ((⟨n.b.set a.toNat v, n.o.set (a.toNat / 256) true, n.hdr, n.img, n.now⟩ : Mem), true) else (n, false)).1.o
    by_cases hc : 0 ≤ a ∧ a < 4096
    · simp only [if_pos hc]
      exact ⟨trivial, by rw [h.1], by rw [h.2]⟩
    · simp only [if_neg hc]
      exact ⟨trivial, h⟩⟩
theorem runAll_sim {code : List In} {s : St} {m n : Mem} (h : m.b = n.b ∧ m.o = n.o) (fuel : Int) : (runAll code s m fuel).s = (runAll code s n fuel).s ∧ (runAll code s m fuel).m.b = (runAll code s n fuel).m.b ∧ (runAll code s m fuel).m.o = (runAll code s n fuel).m.o ∧ (runAll code s m fuel).kind = (runAll code s n fuel).kind ∧ (runAll code s m fuel).trap = (runAll code s n fuel).trap ∧ (runAll code s m fuel).used = (runAll code s n fuel).used := by
  obtain ⟨e1, e2, e3⟩ := runP_sim memK_alike (code := code) fuel.toNat 0 s m n h
  unfold runAll
  by_cases h1 : (chkP code).1 ≠ 0
  · rw [if_pos h1, if_pos h1]; exact ⟨rfl, h.1, h.2, rfl, rfl, rfl⟩
  · rw [if_neg h1, if_neg h1]
    by_cases h2 : fuel < 0 ∨ 1048576 < fuel ∨ ¬ mayP s code.length
    · rw [if_pos h2, if_pos h2]; exact ⟨rfl, h.1, h.2, rfl, rfl, rfl⟩
    · rw [if_neg h2, if_neg h2]
      exact ⟨e1, e2.1, e2.2, congrArg (·.1) e3, congrArg (·.2.1) e3, congrArg (·.2.2) e3⟩
/-- What Run comes to: the process, the stop, the errno. -/
structure RunR where
  x : EpS
  kind : Int
  trap : Int
  used : Int
  err : Int
def goR (x : EpS) (r : Rq) (R : Res) : RunR := ⟨⟨x.code, R.m.b, R.m.o, aftX r R⟩, R.kind, R.trap, R.used, 0⟩
def runX (x : EpS) (ticks : Int) : RunR :=
  if ticks < 1 ∨ 1048576 < ticks then ⟨x, 0, 0, 0, 1⟩ else
  match x.now with
  | none => ⟨x, 0, 0, 0, 3⟩
  | some r => if r.tr = true then ⟨x, 0, 0, 0, 3⟩ else goR x r (runAll x.code r.s (memN x) (if r.fuel < ticks then r.fuel else ticks))
def stopV (r : RunR) : Value := .tuple #[.agg #[.int .i64 r.kind, .int .i64 r.trap, .int .i64 r.used], .int .i64 r.err]
section
variable {W W' W2 : World} {g : Nat} {d : EpD} {K : Nat → Prop} {x : EpS}
theorem goR_sim (x : EpS) (r : Rq) (d : EpD) (n : Int) : goR x r (runAll x.code r.s (memO x d) n) = goR x r (runAll x.code r.s (memN x) n) := by
  obtain ⟨e1, e2, e3, e4, e5, e6⟩ := runAll_sim (code := x.code) (s := r.s) (m := memO x d) (n := memN x) ⟨rfl, rfl⟩ n
  unfold goR aftX
  rw [e1, e2, e3, e4, e5, e6]
theorem EpPost.step (h : EpPost W g d K x W2) (hb : Below W2.heap.size W2 W') : EpPost W g d K x W' := by
  obtain ⟨d', K', h1, h2, h3, h4⟩ := h
  exact ⟨d', K', h1.step hb, h2.trans (Mv.of_below hb (fun _ => False)) (fun _ e => e.elim), h3, h4⟩
theorem EpAt.quiet (h : EpAt W g d K x) (hb : Below W.heap.size W W') : EpPost W g d K x W' := h.same.step hb
theorem below_box3 {n : Nat} (W : World) (hn : n = W.heap.size) (cs : Array Value) (t : TypeId) (a b c : Value) : Below W.heap.size W ((((W.alloc (.cells cs t)).setCell ⟨n, 0, none⟩ a).setCell ⟨n, 1, none⟩ b).setCell ⟨n, 2, none⟩ c) := by
  subst hn
  exact (((below_alloc (Below.refl _ _) _).setCell (p := ⟨W.heap.size, 0, none⟩) (Nat.le_refl _) _).setCell (p := ⟨W.heap.size, 1, none⟩) (Nat.le_refl _) _).setCell (p := ⟨W.heap.size, 2, none⟩) (Nat.le_refl _) _
def notGiven (W : World) (v : Value) : Prop := ∀ W1, Below W.heap.size W W1 → Calls Try.prog 28 #[v] W1 fun e W' => e = .returned (.bool false) ∧ W1 = W'
set_option maxHeartbeats 4000000 in
set_option maxRecDepth 100000 in
/-- Run on what is no event process. -/
theorem run_not {v : Value} (hv : notGiven W v) (ticks : Int) : Calls Try.prog 17 #[v, .int .i64 ticks] W fun E W' => E = .returned (.tuple #[.agg #[.int .i64 0, .int .i64 0, .int .i64 0], .int .i64 1]) ∧ Below W.heap.size W W' := by
  have HG : Aside0 (∀ W1, Below W.heap.size W W1 → Calls Try.prog 28 #[v] W1 fun e W' => e = .returned (.bool false) ∧ W1 = W') := Aside0.mk hv
  have HB0 := Aside0.mk (below_alloc (Below.refl W.heap.size W) (.cells stopZ 53))
  have HB9 := Aside0.mk (below_box3 W rfl stopZ 53 (.int .i64 0) (.int .i64 0) (.int .i64 0))
  have hx := heap_alloc_new W (.cells stopZ 53)
  have c0 : (W.alloc (.cells stopZ 53)).cell? ⟨W.heap.size, 0, none⟩ = some (.int .i64 0) := blk_cell hx 0
  have c1 : (W.alloc (.cells stopZ 53)).cell? ⟨W.heap.size, 1, none⟩ = some (.int .i64 0) := blk_cell hx 1
  have c2 : (W.alloc (.cells stopZ 53)).cell? ⟨W.heap.size, 2, none⟩ = some (.int .i64 0) := blk_cell hx 2
  have z0 : ((W.alloc (.cells stopZ 53)).setCell ⟨W.heap.size, 0, none⟩ (.int .i64 0)).cell? ⟨W.heap.size, 0, none⟩ = some (.int .i64 0) := blk_cell (blk_set hx 0 (.int .i64 0)) 0
  have z1 : (((W.alloc (.cells stopZ 53)).setCell ⟨W.heap.size, 0, none⟩ (.int .i64 0)).setCell ⟨W.heap.size, 1, none⟩ (.int .i64 0)).cell? ⟨W.heap.size, 1, none⟩ = some (.int .i64 0) := blk_cell (blk_set (blk_set hx 0 (.int .i64 0)) 1 (.int .i64 0)) 1
  have z2 : ((((W.alloc (.cells stopZ 53)).setCell ⟨W.heap.size, 0, none⟩ (.int .i64 0)).setCell ⟨W.heap.size, 1, none⟩ (.int .i64 0)).setCell ⟨W.heap.size, 2, none⟩ (.int .i64 0)).cell? ⟨W.heap.size, 2, none⟩ = some (.int .i64 0) := blk_cell (blk_set (blk_set (blk_set hx 0 (.int .i64 0)) 1 (.int .i64 0)) 2 (.int .i64 0)) 2
  clear hx hv
  go_enter Try.func17, Try.ntmps17
  go_wp2_with (go_at_call 28; (with_reducible refine (HG.out _ HB0.out).mono ?_); rintro e w1 ⟨rfl, rfl⟩)
  exact bodyPost_ret (v := .tuple #[.agg #[.int .i64 0, .int .i64 0, .int .i64 0], .int .i64 1]) (by simp [results, Try.results17, go_sem, z0, z1, z2]) rfl ⟨rfl, by first | exact HB0.out | exact HB9.out⟩
set_option maxHeartbeats 4000000 in
set_option maxRecDepth 100000 in
theorem EpAt.run_low (h : EpAt W g d K x) (ticks : Int) (ht : ticks < 1) : Calls Try.prog 17 #[.pointer (some ⟨g, 0, none⟩), .int .i64 ticks] W fun E W' => E = .returned (.tuple #[.agg #[.int .i64 0, .int .i64 0, .int .i64 0], .int .i64 1]) ∧ Below W.heap.size W W' := by
  have HG := Aside0.mk (fun W1 (hb : Below W.heap.size W W1) => (h.step hb).given)
  have t0 : decide (ticks < 1) = true := decide_eq_true ht
  have HB0 := Aside0.mk (below_alloc (Below.refl W.heap.size W) (.cells stopZ 53))
  have HB9 := Aside0.mk (below_box3 W rfl stopZ 53 (.int .i64 0) (.int .i64 0) (.int .i64 0))
  have hx := heap_alloc_new W (.cells stopZ 53)
  have c0 : (W.alloc (.cells stopZ 53)).cell? ⟨W.heap.size, 0, none⟩ = some (.int .i64 0) := blk_cell hx 0
  have c1 : (W.alloc (.cells stopZ 53)).cell? ⟨W.heap.size, 1, none⟩ = some (.int .i64 0) := blk_cell hx 1
  have c2 : (W.alloc (.cells stopZ 53)).cell? ⟨W.heap.size, 2, none⟩ = some (.int .i64 0) := blk_cell hx 2
  have z0 : ((W.alloc (.cells stopZ 53)).setCell ⟨W.heap.size, 0, none⟩ (.int .i64 0)).cell? ⟨W.heap.size, 0, none⟩ = some (.int .i64 0) := blk_cell (blk_set hx 0 (.int .i64 0)) 0
  have z1 : (((W.alloc (.cells stopZ 53)).setCell ⟨W.heap.size, 0, none⟩ (.int .i64 0)).setCell ⟨W.heap.size, 1, none⟩ (.int .i64 0)).cell? ⟨W.heap.size, 1, none⟩ = some (.int .i64 0) := blk_cell (blk_set (blk_set hx 0 (.int .i64 0)) 1 (.int .i64 0)) 1
  have z2 : ((((W.alloc (.cells stopZ 53)).setCell ⟨W.heap.size, 0, none⟩ (.int .i64 0)).setCell ⟨W.heap.size, 1, none⟩ (.int .i64 0)).setCell ⟨W.heap.size, 2, none⟩ (.int .i64 0)).cell? ⟨W.heap.size, 2, none⟩ = some (.int .i64 0) := blk_cell (blk_set (blk_set (blk_set hx 0 (.int .i64 0)) 1 (.int .i64 0)) 2 (.int .i64 0)) 2
  clear hx h ht
  go_enter Try.func17, Try.ntmps17
  go_wp2_with (go_at_call 28; (with_reducible refine (HG.out _ HB0.out).mono ?_); rintro e w1 ⟨rfl, rfl⟩)
  exact bodyPost_ret (v := .tuple #[.agg #[.int .i64 0, .int .i64 0, .int .i64 0], .int .i64 1]) (by simp [results, Try.results17, go_sem, z0, z1, z2]) rfl ⟨rfl, by first | exact HB0.out | exact HB9.out⟩
set_option maxHeartbeats 4000000 in
set_option maxRecDepth 100000 in
theorem EpAt.run_high (h : EpAt W g d K x) (ticks : Int) (ht : 1048576 < ticks) : Calls Try.prog 17 #[.pointer (some ⟨g, 0, none⟩), .int .i64 ticks] W fun E W' => E = .returned (.tuple #[.agg #[.int .i64 0, .int .i64 0, .int .i64 0], .int .i64 1]) ∧ Below W.heap.size W W' := by
  have HG := Aside0.mk (fun W1 (hb : Below W.heap.size W W1) => (h.step hb).given)
  have t0 : decide (ticks < 1) = false := decide_eq_false (by omega)
  have t1 : decide (ticks > 1048576) = true := decide_eq_true ht
  have t2 : decide (1048576 < ticks) = true := decide_eq_true ht
  have HB0 := Aside0.mk (below_alloc (Below.refl W.heap.size W) (.cells stopZ 53))
  have HB9 := Aside0.mk (below_box3 W rfl stopZ 53 (.int .i64 0) (.int .i64 0) (.int .i64 0))
  have hx := heap_alloc_new W (.cells stopZ 53)
  have c0 : (W.alloc (.cells stopZ 53)).cell? ⟨W.heap.size, 0, none⟩ = some (.int .i64 0) := blk_cell hx 0
  have c1 : (W.alloc (.cells stopZ 53)).cell? ⟨W.heap.size, 1, none⟩ = some (.int .i64 0) := blk_cell hx 1
  have c2 : (W.alloc (.cells stopZ 53)).cell? ⟨W.heap.size, 2, none⟩ = some (.int .i64 0) := blk_cell hx 2
  have z0 : ((W.alloc (.cells stopZ 53)).setCell ⟨W.heap.size, 0, none⟩ (.int .i64 0)).cell? ⟨W.heap.size, 0, none⟩ = some (.int .i64 0) := blk_cell (blk_set hx 0 (.int .i64 0)) 0
  have z1 : (((W.alloc (.cells stopZ 53)).setCell ⟨W.heap.size, 0, none⟩ (.int .i64 0)).setCell ⟨W.heap.size, 1, none⟩ (.int .i64 0)).cell? ⟨W.heap.size, 1, none⟩ = some (.int .i64 0) := blk_cell (blk_set (blk_set hx 0 (.int .i64 0)) 1 (.int .i64 0)) 1
  have z2 : ((((W.alloc (.cells stopZ 53)).setCell ⟨W.heap.size, 0, none⟩ (.int .i64 0)).setCell ⟨W.heap.size, 1, none⟩ (.int .i64 0)).setCell ⟨W.heap.size, 2, none⟩ (.int .i64 0)).cell? ⟨W.heap.size, 2, none⟩ = some (.int .i64 0) := blk_cell (blk_set (blk_set (blk_set hx 0 (.int .i64 0)) 1 (.int .i64 0)) 2 (.int .i64 0)) 2
  clear hx h ht
  go_enter Try.func17, Try.ntmps17
  go_wp2_with (go_at_call 28; (with_reducible refine (HG.out _ HB0.out).mono ?_); rintro e w1 ⟨rfl, rfl⟩)
  exact bodyPost_ret (v := .tuple #[.agg #[.int .i64 0, .int .i64 0, .int .i64 0], .int .i64 1]) (by simp [results, Try.results17, go_sem, z0, z1, z2]) rfl ⟨rfl, by first | exact HB0.out | exact HB9.out⟩
set_option maxHeartbeats 4000000 in
set_option maxRecDepth 100000 in
theorem EpAt.run_none (h : EpAt W g d K x) (ticks : Int) (ht : ¬ (ticks < 1 ∨ 1048576 < ticks)) (hn : x.now = none) : Calls Try.prog 17 #[.pointer (some ⟨g, 0, none⟩), .int .i64 ticks] W fun E W' => E = .returned (.tuple #[.agg #[.int .i64 0, .int .i64 0, .int .i64 0], .int .i64 3]) ∧ Below W.heap.size W W' := by
  have HG := Aside0.mk (fun W1 (hb : Below W.heap.size W W1) => (h.step hb).given)
  have hd := h.nowc
  have hd : nowV d.rq = .pointer none := by
    rcases hd with ⟨_, e⟩ | ⟨r, e, h1, _⟩
    · exact e
    · rw [hn] at h1; cases h1
  have hg := (h.step (below_alloc (Below.refl W.heap.size W) (.cells stopZ 53))).cells
  rw [hd] at hg
  obtain ⟨_, cn, _, _⟩ := hg
  have t0 : decide (ticks < 1) = false := decide_eq_false (by omega)
  have t1 : decide (ticks > 1048576) = false := decide_eq_false (by omega)
  have t2 : decide (1048576 < ticks) = false := decide_eq_false (by omega)
  have HB0 := Aside0.mk (below_alloc (Below.refl W.heap.size W) (.cells stopZ 53))
  have HB9 := Aside0.mk (below_box3 W rfl stopZ 53 (.int .i64 0) (.int .i64 0) (.int .i64 0))
  have hx := heap_alloc_new W (.cells stopZ 53)
  have c0 : (W.alloc (.cells stopZ 53)).cell? ⟨W.heap.size, 0, none⟩ = some (.int .i64 0) := blk_cell hx 0
  have c1 : (W.alloc (.cells stopZ 53)).cell? ⟨W.heap.size, 1, none⟩ = some (.int .i64 0) := blk_cell hx 1
  have c2 : (W.alloc (.cells stopZ 53)).cell? ⟨W.heap.size, 2, none⟩ = some (.int .i64 0) := blk_cell hx 2
  have z0 : ((W.alloc (.cells stopZ 53)).setCell ⟨W.heap.size, 0, none⟩ (.int .i64 0)).cell? ⟨W.heap.size, 0, none⟩ = some (.int .i64 0) := blk_cell (blk_set hx 0 (.int .i64 0)) 0
  have z1 : (((W.alloc (.cells stopZ 53)).setCell ⟨W.heap.size, 0, none⟩ (.int .i64 0)).setCell ⟨W.heap.size, 1, none⟩ (.int .i64 0)).cell? ⟨W.heap.size, 1, none⟩ = some (.int .i64 0) := blk_cell (blk_set (blk_set hx 0 (.int .i64 0)) 1 (.int .i64 0)) 1
  have z2 : ((((W.alloc (.cells stopZ 53)).setCell ⟨W.heap.size, 0, none⟩ (.int .i64 0)).setCell ⟨W.heap.size, 1, none⟩ (.int .i64 0)).setCell ⟨W.heap.size, 2, none⟩ (.int .i64 0)).cell? ⟨W.heap.size, 2, none⟩ = some (.int .i64 0) := blk_cell (blk_set (blk_set (blk_set hx 0 (.int .i64 0)) 1 (.int .i64 0)) 2 (.int .i64 0)) 2
  clear hx h ht hd
  go_enter Try.func17, Try.ntmps17
  go_wp2_with (go_at_call 28; (with_reducible refine (HG.out _ HB0.out).mono ?_); rintro e w1 ⟨rfl, rfl⟩)
  exact bodyPost_ret (v := .tuple #[.agg #[.int .i64 0, .int .i64 0, .int .i64 0], .int .i64 3]) (by simp [results, Try.results17, go_sem, z0, z1, z2]) rfl ⟨rfl, by first | exact HB0.out | exact HB9.out⟩
set_option maxHeartbeats 4000000 in
set_option maxRecDepth 100000 in
theorem EpAt.run_trapped (h : EpAt W g d K x) (ticks : Int) (ht : ¬ (ticks < 1 ∨ 1048576 < ticks)) {r : Rq} (hn : x.now = some r) (htr : r.tr = true) : Calls Try.prog 17 #[.pointer (some ⟨g, 0, none⟩), .int .i64 ticks] W fun E W' => E = .returned (.tuple #[.agg #[.int .i64 0, .int .i64 0, .int .i64 0], .int .i64 3]) ∧ Below W.heap.size W W' := by
  have HG := Aside0.mk (fun W1 (hb : Below W.heap.size W W1) => (h.step hb).given)
  have hd := h.nowc
  obtain ⟨e, hd⟩ : ∃ e, d.rq = some e := by
    rcases hd with ⟨e, _⟩ | ⟨r, e, h1, h2, _⟩
    · rw [hn] at e; cases e
    · exact ⟨e, h2⟩
  obtain ⟨_, cn, hbx⟩ := ((RN.start h).step (below_alloc (Below.refl W.heap.size W) (.cells stopZ 53))).cells hn hd
  have c5 : (W.alloc (.cells stopZ 53)).cell? ⟨e.rb, 5, none⟩ = some (.bool true) := (blk_cell hbx 5).trans (by rw [← htr]; rfl)
  have t0 : decide (ticks < 1) = false := decide_eq_false (by omega)
  have t1 : decide (ticks > 1048576) = false := decide_eq_false (by omega)
  have t2 : decide (1048576 < ticks) = false := decide_eq_false (by omega)
  have HB0 := Aside0.mk (below_alloc (Below.refl W.heap.size W) (.cells stopZ 53))
  have HB9 := Aside0.mk (below_box3 W rfl stopZ 53 (.int .i64 0) (.int .i64 0) (.int .i64 0))
  have hx := heap_alloc_new W (.cells stopZ 53)
  have c0 : (W.alloc (.cells stopZ 53)).cell? ⟨W.heap.size, 0, none⟩ = some (.int .i64 0) := blk_cell hx 0
  have c1 : (W.alloc (.cells stopZ 53)).cell? ⟨W.heap.size, 1, none⟩ = some (.int .i64 0) := blk_cell hx 1
  have c2 : (W.alloc (.cells stopZ 53)).cell? ⟨W.heap.size, 2, none⟩ = some (.int .i64 0) := blk_cell hx 2
  have z0 : ((W.alloc (.cells stopZ 53)).setCell ⟨W.heap.size, 0, none⟩ (.int .i64 0)).cell? ⟨W.heap.size, 0, none⟩ = some (.int .i64 0) := blk_cell (blk_set hx 0 (.int .i64 0)) 0
  have z1 : (((W.alloc (.cells stopZ 53)).setCell ⟨W.heap.size, 0, none⟩ (.int .i64 0)).setCell ⟨W.heap.size, 1, none⟩ (.int .i64 0)).cell? ⟨W.heap.size, 1, none⟩ = some (.int .i64 0) := blk_cell (blk_set (blk_set hx 0 (.int .i64 0)) 1 (.int .i64 0)) 1
  have z2 : ((((W.alloc (.cells stopZ 53)).setCell ⟨W.heap.size, 0, none⟩ (.int .i64 0)).setCell ⟨W.heap.size, 1, none⟩ (.int .i64 0)).setCell ⟨W.heap.size, 2, none⟩ (.int .i64 0)).cell? ⟨W.heap.size, 2, none⟩ = some (.int .i64 0) := blk_cell (blk_set (blk_set (blk_set hx 0 (.int .i64 0)) 1 (.int .i64 0)) 2 (.int .i64 0)) 2
  clear hx h ht hd hbx htr hn
  go_enter Try.func17, Try.ntmps17
  go_wp2_with (go_at_call 28; (with_reducible refine (HG.out _ HB0.out).mono ?_); rintro e w1 ⟨rfl, rfl⟩)
  exact bodyPost_ret (v := .tuple #[.agg #[.int .i64 0, .int .i64 0, .int .i64 0], .int .i64 3]) (by simp [results, Try.results17, go_sem, z0, z1, z2]) rfl ⟨rfl, by first | exact HB0.out | exact HB9.out⟩
theorem EpAt.run_calls (h : EpAt W g d K x) (ticks : Int) : Calls Try.prog 17 #[.pointer (some ⟨g, 0, none⟩), .int .i64 ticks] W fun E W' => E = .returned (stopV (runX x ticks)) ∧ EpPost W g d K (runX x ticks).x W' := by
  unfold runX
  by_cases ht : ticks < 1 ∨ 1048576 < ticks
  · rw [if_pos ht]
    rcases ht with ht | ht
    · exact (h.run_low ticks ht).mono (fun e w' hp => ⟨hp.1, h.quiet hp.2⟩)
    · exact (h.run_high ticks ht).mono (fun e w' hp => ⟨hp.1, h.quiet hp.2⟩)
  rw [if_neg ht]
  rcases hn : x.now with _ | r
  · exact (h.run_none ticks ht hn).mono (fun e w' hp => ⟨hp.1, h.quiet hp.2⟩)
  · show Calls Try.prog 17 #[.pointer (some ⟨g, 0, none⟩), .int .i64 ticks] W fun E W' => E = .returned (stopV (if r.tr = true then ⟨x, 0, 0, 0, 3⟩ else goR x r (runAll x.code r.s (memN x) (if r.fuel < ticks then r.fuel else ticks)))) ∧ EpPost W g d K (if r.tr = true then ⟨x, 0, 0, 0, 3⟩ else goR x r (runAll x.code r.s (memN x) (if r.fuel < ticks then r.fuel else ticks))).x W'
    by_cases htr : r.tr = true
    · rw [if_pos htr]
      exact (h.run_trapped ticks ht hn htr).mono (fun e w' hp => ⟨hp.1, h.quiet hp.2⟩)
    · rw [if_neg htr]
      obtain ⟨e, hd⟩ : ∃ e, d.rq = some e := by
        rcases h.nowc with ⟨e, _⟩ | ⟨r, e, h1, h2, _⟩
        · rw [hn] at e; cases e
        · exact ⟨e, h2⟩
      rw [← goR_sim x r d]
      exact (h.run_go hn hd (by simpa using htr) ticks _ (by omega) (by omega) rfl rfl).mono (fun e w' hp => hp)
end
end Go.Proofs.Ytkjdhhdkfbkgpaa.VmW
namespace Go.Proofs.Ytkjdhhdkfbkgpaa.VmW
open Go.RowKit Go.Proofs.YtkjdhhdkfbkgpaaW.PrintWords Go.Proofs.YtkjdhhdkfbkgpaaW.PrintMore Go.Proofs.YtkjdhhdkfbkgpaaW.PrintLast Go.Proofs.Ytkjdhhdkfbkgpaa.Pvm
set_option linter.unusedVariables false
set_option linter.unusedSimpArgs false
theorem notGiven.step {W W2 : World} {v : Value} (h : notGiven W v) (hb : Below W.heap.size W W2) : notGiven W2 v := fun W1 hb1 => h W1 (below_step hb hb1)
theorem notGiven_nil (W : World) : notGiven W (.pointer none) := fun W1 _ => nil_given W1
theorem notGiven_zero {W : World} {g : Nat} (hg : g < W.heap.size) (h : W.cell? ⟨g, 0, none⟩ = some (.slice none 0 0)) : notGiven W (.pointer (some ⟨g, 0, none⟩)) := fun W1 hb => zero_given W1 g ((hb.cell (p := ⟨g, 0, none⟩) hg).trans h)
section
variable {W : World} {v : Value}
set_option maxHeartbeats 4000000 in
set_option maxRecDepth 100000 in
theorem trapped_not (hv : notGiven W v) : Calls Try.prog 42 #[v] W fun E W' => E = .returned (.int .i64 1) ∧ W = W' := by
  have HG := Aside0.mk (hv W (Below.refl _ _))
  clear hv
  go_enter Try.func42, Try.ntmps42
  go_wp2_with (go_at_call 28; (with_reducible refine HG.out.mono ?_); rintro e w1 ⟨rfl, rfl⟩)
  go_ret
  exact ⟨rfl, rfl⟩
set_option maxHeartbeats 4000000 in
set_option maxRecDepth 100000 in
theorem begin_not (hv : notGiven W v) (s : ByteArray) (n : Int) : Calls Try.prog 16 #[v, .string s, .int .i64 n] W fun E W' => E = .returned (.int .i64 1) ∧ W = W' := by
  have HG := Aside0.mk (hv W (Below.refl _ _))
  clear hv
  go_enter Try.func16, Try.ntmps16
  go_wp2_with (go_at_call 28; (with_reducible refine HG.out.mono ?_); rintro e w1 ⟨rfl, rfl⟩)
  go_ret
  exact ⟨rfl, rfl⟩
set_option maxHeartbeats 4000000 in
set_option maxRecDepth 100000 in
theorem busy_not (hv : notGiven W v) : Calls Try.prog 19 #[v] W fun E W' => E = .returned (.bool false) ∧ W = W' := by
  have HG := Aside0.mk (hv W (Below.refl _ _))
  clear hv
  go_enter Try.func19, Try.ntmps19
  go_wp2_with (go_at_call 28; (with_reducible refine HG.out.mono ?_); rintro e w1 ⟨rfl, rfl⟩)
  go_ret
  exact ⟨rfl, rfl⟩
set_option maxHeartbeats 4000000 in
set_option maxRecDepth 100000 in
theorem input_not (hv : notGiven W v) : Calls Try.prog 24 #[v] W fun E W' => E = .returned (.string ⟨#[]⟩) ∧ W = W' := by
  have HG := Aside0.mk (busy_not hv)
  clear hv
  go_enter Try.func24, Try.ntmps24
  go_wp2_with (go_at_call 19; (with_reducible refine HG.out.mono ?_); rintro e w1 ⟨rfl, rfl⟩)
  go_ret
  exact ⟨rfl, rfl⟩
set_option maxHeartbeats 4000000 in
set_option maxRecDepth 100000 in
theorem fuel_not (hv : notGiven W v) : Calls Try.prog 18 #[v] W fun E W' => E = .returned (.int .i64 0) ∧ W = W' := by
  have HG := Aside0.mk (busy_not hv)
  clear hv
  go_enter Try.func18, Try.ntmps18
  go_wp2_with (go_at_call 19; (with_reducible refine HG.out.mono ?_); rintro e w1 ⟨rfl, rfl⟩)
  go_ret
  exact ⟨rfl, rfl⟩
set_option maxHeartbeats 4000000 in
set_option maxRecDepth 100000 in
theorem args_not (hv : notGiven W v) (n : Int) : Calls Try.prog 22 #[v, .int .i64 n] W fun E W' => E = .returned (.tuple #[.slice none 0 0, .int .i64 1]) ∧ W = W' := by
  have HG := Aside0.mk (trapped_not hv)
  clear hv
  go_enter Try.func22, Try.ntmps22
  go_wp2_with (go_at_call 42; (with_reducible refine HG.out.mono ?_); rintro e w1 ⟨rfl, rfl⟩)
  go_ret2
  exact ⟨rfl, rfl⟩
set_option maxHeartbeats 4000000 in
set_option maxRecDepth 100000 in
theorem give_not (hv : notGiven W v) (n : Int) : Calls Try.prog 23 #[v, .int .i64 n] W fun E W' => E = .returned (.int .i64 1) ∧ W = W' := by
  have HG := Aside0.mk (trapped_not hv)
  clear hv
  go_enter Try.func23, Try.ntmps23
  go_wp2_with (go_at_call 42; (with_reducible refine HG.out.mono ?_); rintro e w1 ⟨rfl, rfl⟩)
  go_ret
  exact ⟨rfl, rfl⟩
set_option maxHeartbeats 4000000 in
set_option maxRecDepth 100000 in
theorem text_not (hv : notGiven W v) (a n : Int) : Calls Try.prog 10 #[v, .int .i64 a, .int .i64 n] W fun E W' => E = .returned (.tuple #[.string ⟨#[]⟩, .bool false]) ∧ W = W' := by
  have HG := Aside0.mk (hv W (Below.refl _ _))
  clear hv
  go_enter Try.func10, Try.ntmps10
  go_wp2_with (go_at_call 28; (with_reducible refine HG.out.mono ?_); rintro e w1 ⟨rfl, rfl⟩)
  go_ret2
  exact ⟨rfl, rfl⟩
set_option maxHeartbeats 4000000 in
set_option maxRecDepth 100000 in
theorem lay_not (hv : notGiven W v) (a : Int) (s : ByteArray) : Calls Try.prog 11 #[v, .int .i64 a, .string s] W fun E W' => E = .returned (.bool false) ∧ W = W' := by
  have HG := Aside0.mk (hv W (Below.refl _ _))
  clear hv
  go_enter Try.func11, Try.ntmps11
  go_wp2_with (go_at_call 28; (with_reducible refine HG.out.mono ?_); rintro e w1 ⟨rfl, rfl⟩)
  go_ret
  exact ⟨rfl, rfl⟩
set_option maxHeartbeats 4000000 in
set_option maxRecDepth 100000 in
theorem pages_not (hv : notGiven W v) : Calls Try.prog 12 #[v] W fun E W' => E = .returned (.slice none 0 0) ∧ W = W' := by
  have HG := Aside0.mk (hv W (Below.refl _ _))
  clear hv
  go_enter Try.func12, Try.ntmps12
  go_wp2_with (go_at_call 28; (with_reducible refine HG.out.mono ?_); rintro e w1 ⟨rfl, rfl⟩)
  go_ret
  exact ⟨rfl, rfl⟩
set_option maxHeartbeats 4000000 in
set_option maxRecDepth 100000 in
theorem copy_not (hv : notGiven W v) : Calls Try.prog 21 #[v] W fun E W' => E = .returned (.pointer none) ∧ W = W' := by
  have HG := Aside0.mk (hv W (Below.refl _ _))
  clear hv
  go_enter Try.func21, Try.ntmps21
  go_wp2_with (go_at_call 28; (with_reducible refine HG.out.mono ?_); rintro e w1 ⟨rfl, rfl⟩)
  go_ret
  exact ⟨rfl, rfl⟩
set_option maxHeartbeats 4000000 in
set_option maxRecDepth 100000 in
theorem end_not (hv : notGiven W v) : Calls Try.prog 15 #[v] W fun E W' => E = .returned (.tuple #[]) ∧ W = W' := by
  have HG := Aside0.mk (hv W (Below.refl _ _))
  clear hv
  go_enter Try.func15, Try.ntmps15
  go_wp2_with (go_at_call 28; (with_reducible refine HG.out.mono ?_); rintro e w1 ⟨rfl, rfl⟩)
  go_end0
  exact ⟨rfl, rfl⟩
end
end Go.Proofs.Ytkjdhhdkfbkgpaa.VmW
namespace Go.Proofs.Ytkjdhhdkfbkgpaa.VmW
open Go.RowKit Go.Proofs.YtkjdhhdkfbkgpaaW.PrintWords Go.Proofs.YtkjdhhdkfbkgpaaW.PrintMore Go.Proofs.YtkjdhhdkfbkgpaaW.PrintLast Go.Proofs.Ytkjdhhdkfbkgpaa.Pvm
set_option linter.unusedVariables false
set_option linter.unusedSimpArgs false
section
variable {W W' W1 W2 : World} {g : Nat} {d d1 : EpD} {K K1 : Nat → Prop} {x x1 x2 : EpS}
theorem EpAt.turned (h : EpAt W g d K x) {b' : List Int} {o' : List Bool} {pp' : List (Option Nat)} (hma : MemAt W' g pp' ⟨b', o', .slice d.A x.code.length d.c, d.img, nowV d.rq⟩) (hmv : Mv W W' (fun k => k = g ∨ some k ∈ d.pp)) (hff : ∀ k : Nat, some k ∈ pp' → (k = g ∨ some k ∈ d.pp) ∨ W.heap.size ≤ k) : EpPost W g d K ⟨x.code, b', o', x.now⟩ W' := by
  have hfF : ∀ k, (k = g ∨ some k ∈ d.pp) → d.F g k := fun k hk => hk.elim .inl (fun hk => .inr (.inl hk))
  have hk1 : ∀ k, K k → ¬ (k = g ∨ some k ∈ d.pp) := fun k hk hf => h.apart k (hfF k hf) hk
  have hfl := h.flt
  refine ⟨⟨pp', d.img, d.A, d.c, d.rq⟩, K, ⟨hma, Kd.V_step h.code (fun k hk hlt => hmv.block k hlt (hk1 k hk)), h.chk, ?_, ?_, fun k hk => Nat.lt_of_lt_of_le (h.kb k hk) hmv.size⟩, hmv.mono (fun k hk => .inl (hfF k hk)), ?_, fun k hk => .inl hk⟩
  · have hnow := h.now
    show NowAt W' g pp' K x.code.length d.rq x.now
    revert hnow
    rcases hd : d.rq with _ | e <;> rcases hx : x.now with _ | r
    · exact id
    · exact id
    · exact id
    · intro hq
      have hq : RqAt W g d.pp K x.code.length e r := hq
      have hrb : ¬ (e.rb = g ∨ some e.rb ∈ d.pp) := fun hf => hf.elim hq.ne hq.np
      have hrl := blk_lt hq.box
      exact ⟨(hmv.block _ hrl hrb).trans hq.box, Kd.V_step hq.st (fun k hk hlt => hmv.block k hlt (hk1 k hk)), Kd.V_step hq.ca (fun k hk hlt => hmv.block k hlt (hk1 k hk)), hq.ne, fun hin => (hff _ hin).elim hrb (fun hle => by omega), hq.may, hq.fu⟩
  · rintro k (hk | hk | ⟨r2, hr2, hk⟩) hK
    · exact hk1 k hK (.inl hk)
    · rcases hff k hk with h6 | h6
      · exact hk1 k hK h6
      · have := h.kb k hK; omega
    · exact h.apart k (.inr (.inr ⟨r2, hr2, hk⟩)) hK
  · rintro k (hk | hk | ⟨r2, hr2, hk⟩)
    · exact .inl (.inl hk)
    · exact (hff k hk).elim (fun h6 => .inl (hfF k h6)) .inr
    · exact .inl (.inr (.inr ⟨r2, hr2, hk⟩))
theorem EpAt.store (h : EpAt W g d K x) (a : Nat) (ha : a < 4096) (v : Int) (hv : 0 ≤ v ∧ v ≤ 255) : Calls Try.prog 31 #[.pointer (some ⟨g, 1, none⟩), .int .i64 (a : Int), .int .u8 v] W fun E W' => E = .returned (.bool true) ∧ EpPost W g d K ⟨x.code, x.b.set a v, x.o.set (a / 256) true, x.now⟩ W' := by
  have hm : MemP W (.pointer (some ⟨g, 1, none⟩)) (fun k => k = g ∨ some k ∈ d.pp) (memO x d) := ⟨g, d.pp, rfl, h.mem, fun k => Iff.rfl⟩
  refine (store_calls W _ _ _ hm (a : Int) v hv).mono ?_
  rintro E W' ⟨f', he, ⟨g', pp', hp, hma, hf'⟩, hmv, hff⟩
  obtain rfl : g = g' := by
    injection hp with hp; injection hp with hp; injection hp
  have hE : memK.store (memO x d) (a : Int) v = (stored (memO x d) a v, true) := by unfold memK; dsimp only; rw [if_pos (by omega)]; rfl
  rw [hE] at he hma
  exact ⟨he, h.turned hma hmv (fun k hk => hff k ((hf' k).2 (.inr hk)))⟩
theorem EpPost.comp (m1 : Mv W W1 (d.F g)) (f1 : ∀ k, d1.F g k → d.F g k ∨ W.heap.size ≤ k) (k1 : ∀ k, K1 k → K k ∨ W.heap.size ≤ k) (h2 : EpPost W1 g d1 K1 x2 W2) : EpPost W g d K x2 W2 := by
  obtain ⟨d2, K2, a2, m2, f2, k2⟩ := h2
  exact ⟨d2, K2, a2, m1.trans m2 f1, fun k hk => (f2 k hk).elim (f1 k) (fun h => .inr (Nat.le_trans m1.size h)), fun k hk => (k2 k hk).elim (k1 k) (fun h => .inr (Nat.le_trans m1.size h))⟩
def layB (b : List Int) (a : Nat) (s : ByteArray) : Nat → List Int
  | 0 => b
  | i + 1 => (layB b a s i).set (a + i) (imgAt s i)
def layO (o : List Bool) (a : Nat) : Nat → List Bool
  | 0 => o
  | i + 1 => (layO o a i).set ((a + i) / 256) true
def laidX (x : EpS) (a : Nat) (s : ByteArray) (i : Nat) : EpS := ⟨x.code, layB x.b a s i, layO x.o a i, x.now⟩
def layP (x : EpS) (at_ : Int) (s : ByteArray) : EpS × Bool := if inP at_ s.size then (laidX x at_.toNat s s.size, true) else (x, false)
set_option maxHeartbeats 4000000 in
set_option maxRecDepth 100000 in
theorem EpAt.lay_calls (h : EpAt W g d K x) (at_ : Int) (s : ByteArray) (hs : s.size < 140737488355328) : Calls Try.prog 11 #[.pointer (some ⟨g, 0, none⟩), .int .i64 at_, .string s] W fun E W' => E = .returned (.bool (layP x at_ s).2) ∧ EpPost W g d K (layP x at_ s).1 W' := by
  have HG := Aside0.mk h.given
  have HW := Aside0.mk (within_calls at_ (s.size : Int) W)
  have HQ := Aside0.mk h.same
  unfold layP
  by_cases hin : inP at_ s.size
  · rw [if_pos hin]
    rw [decide_eq_true hin] at HW
    obtain ⟨a, rfl⟩ := Int.eq_ofNat_of_zero_le hin.1
    have hm : a + s.size ≤ 4096 := by have := hin.2.2; omega
    have HP0 := Aside0.mk (show EpPost W g d K (laidX x a s 0) W from h.same)
    have HA := Aside0.mk hm
    clear h hin HQ
    go_enter Try.func11, Try.ntmps11
    go_wp2_with (first
      | (go_at_call 28; (with_reducible refine HG.out.mono ?_); rintro e w1 ⟨rfl, rfl⟩)
      | (go_at_call 29; (with_reducible refine HW.out.mono ?_); rintro e w1 ⟨rfl, rfl⟩))
    go_loopw [20] (fun t20 wr => ∃ i : Nat, i ≤ s.size ∧ t20 = .int .i64 (i : Int) ∧ Aside0 (EpPost W g d K (laidX x a s i) wr)) (fun i _ => s.size - (intOf i).toNat)
    case atStart => exact ⟨0, Nat.zero_le _, rfl, HP0⟩
    case round =>
      clear HP0
      obtain ⟨i, hi, rfl, HP⟩ := hrel
      by_cases hlt : i < s.size
      · have i1 : (i : Int) < (s.size : Int) := by omega
        have hal := HA.out
        obtain ⟨d1, K1, a1, m1, f1, k1⟩ := HP.out
        have HS := Aside0.mk (show Calls Try.prog 31 #[.pointer (some ⟨g, 1, none⟩), .int .i64 (wrap64 ((a : Int) + (i : Int))), .int .u8 (imgAt s i)] wr.drew fun E W' => E = .returned (.bool true) ∧ EpPost W g d K (laidX x a s (i + 1)) W' from by
          rw [show wrap64 ((a : Int) + (i : Int)) = ((a + i : Nat) : Int) from by unfold wrap64; omega]
          refine ((a1.step (below_drew (Below.refl _ _))).store (a + i) (by omega) (imgAt s i) (imgAt_byte s i)).mono ?_
          rintro E W' ⟨he, hp⟩
          exact ⟨he, EpPost.comp (m1.drew) f1 k1 hp⟩)
        have HI := Aside0.mk (show imgAt s i = ((s[i]).toNat : Int) from by unfold imgAt; rw [dif_pos hlt])
        rw [HI.out] at HS
        clear a1 m1 f1 k1 hal
        go_upto_region 6 with (fail)
        refine start_ (n := 10) (S := fun w' => True) (ds := []) #[false, false, false, false, false, false, false, false, false, false] (by kernel_rfl) rfl rfl trivial (fun hHeld => ?_)
        refine pure_ (i := 0) (N := some 23) (v := ?_) (a' := ?_) #[true, false, false, false, false, false, false, false, false, false] rfl rfl (by kernel_rfl) (fun _ _ _ h => h) (Or.inl ⟨by rfl, ?_⟩) ?_ ?_
        rotate_left
        · intro w'
          go_simp
          with_reducible rfl
        rotate_left
        · simp only [Act.put, List.setIfInBounds_toArray, List.set_cons_zero, List.set_cons_succ, i64_w, i32_w]
          rfl
        refine pure_ (i := 1) (N := some 24) (v := ?_) (a' := ?_) #[true, true, false, false, false, false, false, false, false, false] rfl rfl (by kernel_rfl) (fun _ _ _ h => h) (Or.inl ⟨by rfl, ?_⟩) ?_ ?_
        rotate_left
        · intro w'
          go_simp
          with_reducible rfl
        rotate_left
        · simp only [Act.put, List.setIfInBounds_toArray, List.set_cons_zero, List.set_cons_succ, i64_w, i32_w]
          rfl
        refine pure_ (i := 2) (N := some 25) (v := ?_) (a' := ?_) #[true, true, true, false, false, false, false, false, false, false] rfl rfl (by kernel_rfl) (fun _ _ _ h => h) (Or.inl ⟨by rfl, ?_⟩) ?_ ?_
        rotate_left
        · intro w'
          go_simp
          with_reducible rfl
        rotate_left
        · simp only [Act.put, List.setIfInBounds_toArray, List.set_cons_zero, List.set_cons_succ, i64_w, i32_w]
          rfl
        refine pure_ (i := 3) (N := some 26) (v := ?_) (a' := ?_) #[true, true, true, true, false, false, false, false, false, false] rfl rfl (by kernel_rfl) (fun _ _ _ h => h) (Or.inl ⟨by rfl, ?_⟩) ?_ ?_
        rotate_left
        · intro w'
          go_simp
          with_reducible rfl
        rotate_left
        · simp only [Act.put, List.setIfInBounds_toArray, List.set_cons_zero, List.set_cons_succ, i64_w, i32_w]
          rfl
        refine pure_ (i := 4) (N := some 27) (v := ?_) (a' := ?_) #[true, true, true, true, true, false, false, false, false, false] rfl rfl (by kernel_rfl) (fun _ _ _ h => h) (Or.inl ⟨by rfl, ?_⟩) ?_ ?_
        rotate_left
        · intro w'
          go_simp
          with_reducible rfl
        rotate_left
        · simp only [Act.put, List.setIfInBounds_toArray, List.set_cons_zero, List.set_cons_succ, i64_w, i32_w]
          rfl
        refine pure_ (i := 5) (N := some 28) (v := ?_) (a' := ?_) #[true, true, true, true, true, true, false, false, false, false] rfl rfl (by kernel_rfl) (fun _ _ _ h => h) (Or.inl ⟨by rfl, ?_⟩) ?_ ?_
        rotate_left
        · intro w'
          go_simp
          with_reducible rfl
        rotate_left
        · simp only [Act.put, List.setIfInBounds_toArray, List.set_cons_zero, List.set_cons_succ, i64_w, i32_w]
          rfl
        refine pure_ (i := 6) (N := some 29) (v := ?_) (a' := ?_) #[true, true, true, true, true, true, true, false, false, false] rfl rfl (by kernel_rfl) (fun _ _ _ h => h) (Or.inl ⟨by rfl, ?_⟩) ?_ ?_
        rotate_left
        · intro w'
          go_simp
          with_reducible rfl
        rotate_left
        · simp only [Act.put, List.setIfInBounds_toArray, List.set_cons_zero, List.set_cons_succ, i64_w, i32_w]
          rfl
        refine pure_ (i := 7) (N := some 30) (v := ?_) (a' := ?_) #[true, true, true, true, true, true, true, true, false, false] rfl rfl (by kernel_rfl) (fun _ _ _ h => h) (Or.inl ⟨by rfl, ?_⟩) ?_ ?_
        rotate_left
        · intro w'
          go_simp
          with_reducible rfl
        rotate_left
        · simp only [Act.put, List.setIfInBounds_toArray, List.set_cons_zero, List.set_cons_succ, i64_w, i32_w]
          rfl
        refine take_ (i := 8) (N := some 31) (v := ?_) (a' := ?_) #[true, true, true, true, true, true, true, true, true, false] rfl rfl (by kernel_rfl) (fun _ _ _ h => h) (Or.inl ⟨by rfl, ?_⟩) hHeld ?_ ?_
        rotate_left
        · intro w' _
          go_simp
          with_reducible rfl
        rotate_left
        · simp only [Act.put, List.setIfInBounds_toArray, List.set_cons_zero, List.set_cons_succ, i64_w, i32_w]
          rfl
        refine one_ (i := 9) (N := some 32) #[true, true, true, true, true, true, true, true, true, true] rfl rfl (by kernel_rfl) (by decide) (fun K hK => ?_)
        refine goes_ Try.func31 (by kernel_rfl) rfl #[.pointer (some ⟨g, 1, none⟩), .int .i64 (wrap64 ((a : Int) + (i : Int))), .int .u8 ((s[i]).toNat : Int)] (by rfl) rfl rfl (by simp only [List.map_toArray, List.map_cons, List.map_nil]; rfl) ?_
        with_reducible refine (HS.out).mono ?_
        rintro e w2 ⟨rfl, hp⟩
        refine ⟨_, rfl, ?_⟩
        have HP2 := Aside0.mk hp
        clear hp
        refine hK.out _ _ trivial (fun hHeld => ?_)
        clear hK K
        refine norm_ (a' := ?_) ?_ ?_
        rotate_left
        · show Act.put _ (some 32) _ = _
          simp only [Act.put, List.setIfInBounds_toArray, List.set_cons_zero, List.set_cons_succ, i64_w, i32_w]
          rfl
        refine done_ (by kernel_rfl) ?_

        go_wp2
        exact ⟨⟨i + 1, by omega, by go_num, HP2⟩, by simp [intOf]; omega⟩
      · obtain rfl : i = s.size := by omega
        have i1 : ¬ ((s.size : Int) < (s.size : Int)) := by omega
        go_wp2
        go_ret
        exact ⟨rfl, HP.out⟩
  · rw [if_neg hin]
    rw [decide_eq_false hin] at HW
    clear h hin
    go_enter Try.func11, Try.ntmps11
    go_wp2_with (first
      | (go_at_call 28; (with_reducible refine HG.out.mono ?_); rintro e w1 ⟨rfl, rfl⟩)
      | (go_at_call 29; (with_reducible refine HW.out.mono ?_); rintro e w1 ⟨rfl, rfl⟩))
    go_ret
    exact ⟨rfl, HQ.out⟩
def inputP (x : EpS) : ByteArray := match x.now with
  | none => ⟨#[]⟩
  | some r => r.text
set_option maxHeartbeats 4000000 in
set_option maxRecDepth 100000 in
theorem EpAt.input_calls (h : EpAt W g d K x) : Calls Try.prog 24 #[.pointer (some ⟨g, 0, none⟩)] W fun e W' => e = .returned (.string (inputP x)) ∧ W = W' := by
  have HB := Aside0.mk h.busy
  obtain ⟨_, c1, f1, hgl⟩ := h.cells
  unfold inputP
  rcases h.nowc with ⟨hn, hv⟩ | ⟨r, e, hn, hd, hv, hr⟩
  · rw [hn] at HB ⊢
    clear h hn hv
    go_enter Try.func24, Try.ntmps24
    go_wp2_with (go_at_call 19; (with_reducible refine HB.out.mono ?_); rintro e w1 ⟨rfl, rfl⟩)
    go_ret
    exact ⟨rfl, rfl⟩
  · rw [hn] at HB ⊢
    rw [hv] at c1
    have c2 : W.cell? ⟨e.rb, 3, none⟩ = some (.string r.text) := blk_cell hr.box 3
    clear h hn hv hd hr
    go_enter Try.func24, Try.ntmps24
    go_wp2_with (go_at_call 19; (with_reducible refine HB.out.mono ?_); rintro e w1 ⟨rfl, rfl⟩)
    go_ret
    exact ⟨rfl, rfl⟩
def endP (x : EpS) : EpS := ⟨x.code, x.b, x.o, none⟩
set_option maxHeartbeats 4000000 in
set_option maxRecDepth 100000 in
theorem EpAt.end_calls (h : EpAt W g d K x) : Calls Try.prog 15 #[.pointer (some ⟨g, 0, none⟩)] W fun e W' => e = .returned (.tuple #[]) ∧ EpPost W g d K (endP x) W' := by
  have HG := Aside0.mk h.given
  have HE := Aside0.mk ((RN.clear (RN.start h)).done rfl)
  obtain ⟨_, c1, f1, hgl⟩ := h.cells
  clear h
  go_enter Try.func15, Try.ntmps15
  go_wp2_with (go_at_call 28; (with_reducible refine HG.out.mono ?_); rintro e w1 ⟨rfl, rfl⟩)
  go_end0
  exact ⟨rfl, HE.out⟩
end
end Go.Proofs.Ytkjdhhdkfbkgpaa.VmW
namespace Go.Proofs.Ytkjdhhdkfbkgpaa.VmW
open Go.RowKit Go.Proofs.YtkjdhhdkfbkgpaaW.PrintWords Go.Proofs.YtkjdhhdkfbkgpaaW.PrintMore Go.Proofs.YtkjdhhdkfbkgpaaW.PrintLast Go.Proofs.Ytkjdhhdkfbkgpaa.Pvm
set_option linter.unusedVariables false
set_option linter.unusedSimpArgs false
section
variable {W W' W1 W2 : World} {g : Nat} {d d1 : EpD} {K K1 : Nat → Prop} {x x1 x2 : EpS}
def pagesL (o : List Bool) (k : Nat) : List Int := ((List.range k).filter fun i => o.getD i false).map fun i : Nat => (i : Int)
def pagesP (x : EpS) : List Int := pagesL x.o 16
theorem pagesL_step_no {o : List Bool} {k : Nat} (h : o[k]? = some false) : pagesL o (k + 1) = pagesL o k := by
  unfold pagesL
  rw [List.range_succ, List.filter_append, List.map_append]
  simp [h]
theorem pagesL_step_yes {o : List Bool} {k : Nat} (h : o[k]? = some true) : pagesL o (k + 1) = pagesL o k ++ [(k : Int)] := by
  unfold pagesL
  rw [List.range_succ, List.filter_append, List.map_append]
  simp [h]
theorem pagesL_len (o : List Bool) (k : Nat) : (pagesL o k).length ≤ k := by
  unfold pagesL
  rw [List.length_map]
  have := List.length_filter_le (fun i => o.getD i false) (List.range k)
  rwa [List.length_range] at this
theorem len16 {α : Type} {l : List α} (h : l.length = 16) : ∃ a0 a1 a2 a3 a4 a5 a6 a7 a8 a9 a10 a11 a12 a13 a14 a15, l = [a0, a1, a2, a3, a4, a5, a6, a7, a8, a9, a10, a11, a12, a13, a14, a15] := by
  match l, h with
  | [a0, a1, a2, a3, a4, a5, a6, a7, a8, a9, a10, a11, a12, a13, a14, a15], _ => exact ⟨_, _, _, _, _, _, _, _, _, _, _, _, _, _, _, _, rfl⟩
theorem run_page_index (AR : Array Value) (k : Nat) (hk : k < 16) (v : Value) (h : AR[k]? = some v) (w : World) : (Instr.index 62 (.agg AR) (.int .i64 (k : Int))).run Try.prog w = .ok v w := by
  have hu : Try.prog.underlying 62 = some (.array 16 61) := by kernel_rfl
  have hs : ∀ w, (sizeOf 61).run Try.prog w = .ok 1 w := fun w => by kernel_rfl
  have ha : ∀ w, (isAgg 61).run Try.prog w = .ok false w := fun w => by kernel_rfl
  have h0 : 0 ≤ (k : Int) ∧ (k : Int) < 16 := by omega
  simp [Instr.index, run_underlying hu, asIntOf, part, hs, ha, h, hk, go_sem]
set_option maxHeartbeats 4000000 in
set_option maxRecDepth 100000 in
theorem EpAt.pages_calls (h : EpAt W g d K x) : Calls Try.prog 12 #[.pointer (some ⟨g, 0, none⟩)] W fun E W' => ∃ A c, E = .returned (.slice A (pagesP x).length c) ∧ W'.ownsRow W.heap.size 3 1 (.slice A (pagesP x).length c) (pagesP x).length (nums .i64 (pagesP x)) ∧ Below W.heap.size W W' := by
  have HG := Aside0.mk h.given
  have hc := h.mem.cells.2.2.1
  obtain ⟨a0, a1, a2, a3, a4, a5, a6, a7, a8, a9, a10, a11, a12, a13, a14, a15, hpp⟩ := len16 h.mem.lp
  have c0 := hc 0 a0 (by rw [hpp]; rfl)
  have c1 := hc 1 a1 (by rw [hpp]; rfl)
  have c2 := hc 2 a2 (by rw [hpp]; rfl)
  have c3 := hc 3 a3 (by rw [hpp]; rfl)
  have c4 := hc 4 a4 (by rw [hpp]; rfl)
  have c5 := hc 5 a5 (by rw [hpp]; rfl)
  have c6 := hc 6 a6 (by rw [hpp]; rfl)
  have c7 := hc 7 a7 (by rw [hpp]; rfl)
  have c8 := hc 8 a8 (by rw [hpp]; rfl)
  have c9 := hc 9 a9 (by rw [hpp]; rfl)
  have c10 := hc 10 a10 (by rw [hpp]; rfl)
  have c11 := hc 11 a11 (by rw [hpp]; rfl)
  have c12 := hc 12 a12 (by rw [hpp]; rfl)
  have c13 := hc 13 a13 (by rw [hpp]; rfl)
  have c14 := hc 14 a14 (by rw [hpp]; rfl)
  have c15 := hc 15 a15 (by rw [hpp]; rfl)
  have HPP := Aside0.mk (show (#[ptrP a0, ptrP a1, ptrP a2, ptrP a3, ptrP a4, ptrP a5, ptrP a6, ptrP a7, ptrP a8, ptrP a9, ptrP a10, ptrP a11, ptrP a12, ptrP a13, ptrP a14, ptrP a15] : Array Value) = (d.pp.map ptrP).toArray from by rw [hpp]; rfl)
  have HM := Aside0.mk h.mem
  clear hc hpp h
  go_enter Try.func12, Try.ntmps12
  go_wp2_with (first
    | (go_at_call 28; (with_reducible refine HG.out.mono ?_); rintro e w1 ⟨rfl, rfl⟩))
  rw [HPP.out]
  have HAR := Aside0.mk (show ∀ (k : Nat) y, d.pp[k]? = some y → ((d.pp.map ptrP).toArray)[k]? = some (ptrP y) from fun k y hk => by rw [List.getElem?_toArray, List.getElem?_map, hk]; rfl)
  generalize (d.pp.map ptrP).toArray = AR at *
  clear HPP c0 c1 c2 c3 c4 c5 c6 c7 c8 c9 c10 c11 c12 c13 c14 c15
  go_loopw [14, 3] (fun t14 t3 wr => ∃ k : Nat, k ≤ 16 ∧ t14 = .int .i64 (k : Int) ∧ Aside0 (Below W.heap.size W wr) ∧ ∃ A c, t3 = .slice A (pagesL x.o k).length c ∧ Aside0 (wr.ownsRow W.heap.size 3 1 (.slice A (pagesL x.o k).length c) (pagesL x.o k).length (nums .i64 (pagesL x.o k)))) (fun i _ _ => 16 - (intOf i).toNat)
  case atStart => exact ⟨0, by omega, rfl, Aside0.mk (Below.refl _ _), none, 0, rfl, Aside0.mk (own_nil _ _ _ _)⟩
  case round =>
    obtain ⟨k, hk, rfl, HB, A, c, rfl, HO⟩ := hrel
    by_cases hlt : k < 16
    · have i1 : (k : Int) < 16 := by omega
      obtain ⟨y, hy⟩ : ∃ y, d.pp[k]? = some y := ⟨_, List.getElem?_eq_getElem (by rw [HM.out.lp]; exact hlt)⟩
      have hAR := HAR.out k y hy
      have hlen := pagesL_len x.o k
      cases y with
      | none =>
        have hs := pagesL_step_no (HM.out.no k hy).1
        have hix : ∀ w, (Instr.index 62 (.agg AR) (.int .i64 (k : Int))).run Try.prog w = .ok (.pointer none) w := run_page_index AR k hlt _ hAR
        have HO2 := HO.out
        rw [← hs] at HO2
        have HO3 := Aside0.mk HO2
        have HL := Aside0.mk hs
        clear hs HO2 hy hlen
        go_wp2
        exact ⟨⟨k + 1, by omega, by go_num, HB, A, c, by rw [HL.out], HO3⟩, by simp [intOf]; omega⟩
      | some q =>
        have hs := pagesL_step_yes (HM.out.yes k q hy).1
        have hix : ∀ w, (Instr.index 62 (.agg AR) (.int .i64 (k : Int))).run Try.prog w = .ok (.pointer (some ⟨q, 0, none⟩)) w := run_page_index AR k hlt _ hAR
        have HL := Aside0.mk hs
        have HLe := Aside0.mk hlen
        clear hs hy hlen
        go_wp2_with (at_builtin; refine print_append_row (w0 := W) W.heap.size rfl _ _ 33 3 .i64 8 rfl Try.underlying33 infoI (by decide) (.slice A (pagesL x.o k).length c) (pagesL x.o k) [(k : Int)] (some ⟨wr.heap.size, 0, none⟩) 1 1 rfl rfl (own_alloc HO.out _) (lit_R wr (k : Int)) (below_alloc HB.out _) (by have := HB.out.size; simp; omega) (by have := HLe.out; omega) ?_; intro v9 w3 ho hb hg hat; obtain ⟨C1, c3, rfl⟩ := own_slice ho; rw [← HL.out] at ho; rw [← HL.out]; have HO3 := Aside0.mk ho; have HB3 := Aside0.mk hb; clear ho hb hg hat)
        exact ⟨⟨k + 1, by omega, by go_num, HB3, C1, c3, rfl, HO3⟩, by simp [intOf]; omega⟩
    · obtain rfl : k = 16 := by omega
      go_wp2
      go_ret
      exact ⟨A, c, rfl, HO.out, HB.out⟩
end
end Go.Proofs.Ytkjdhhdkfbkgpaa.VmW
