/- The reference's Take. -/
import Derived.Test.YtclhddldbfdfdaaPoL1
namespace Go.Proofs.Ytclhddldbfdfdaa.PoW
open Go.RowKit Go.Proofs.YtclhddldbfdfdaaW.PrintWords Go.Proofs.YtclhddldbfdfdaaW.PrintMore Go.Proofs.YtclhddldbfdfdaaW.PrintLast Go.Proofs.Ytclhddldbfdfdaa.Ppt
set_option linter.unusedVariables false
set_option linter.unusedSimpArgs false
abbrev RM := S37
abbrev kR := Kd.slice 37 k37
/-- The reference's lists: rows that nobody writes to. -/
abbrev QV (W : World) (ok : Nat → Prop) (A : Option Addr) (c : Nat) (q : List (List RM)) : Prop := Kd.V kR 83 W W.heap.size ok (.slice A q.length c) q
def rtakeL (q : List (List RM)) (who : Int) : RM × Bool × List (List RM) := if 0 ≤ who ∧ who < (q.length : Int) then (match q.getD who.toNat [] with | [] => (z37, false, q) | x :: l => (x, true, q.set who.toNat l)) else (z37, false, q)
def RTakePost (W : World) (P : Nat → Prop) (room : Int) (r : RM × Bool × List (List RM)) (e : Ending) (W' : World) : Prop := ∃ A' c', e = .returned (.tuple #[.agg #[.int .i64 room, .slice A' r.2.2.length c'], .agg #[.int .i64 r.1.f0, .string r.1.f1], .bool r.2.1]) ∧ Kd.V kR 83 W' W.heap.size (fun k => P k ∨ W.heap.size ≤ k) (.slice A' r.2.2.length c') r.2.2 ∧ Below W.heap.size W W'
structure RT0 (W W' : World) (room : Int) (A : Option Addr) (n c : Nat) : Prop where
  below : Below W.heap.size W W'
  b0 : W'.heap[W.heap.size]? = some (.cells #[.int .i64 room, .slice A n c] 52 (0, 0))
  b1 : W'.heap[W.heap.size + 1]? = some (.cells #[.int .i64 0, .slice none 0 0] 52 (0, 0))
  b2 : W'.heap[W.heap.size + 1 + 1]? = some (.cells #[.int .i64 0, .string ⟨#[]⟩] 37 (0, 0))
theorem rt0_mk (W : World) (room : Int) (A : Option Addr) (n c : Nat) : RT0 W (((W.alloc (.cells #[.int .i64 room, .slice A n c] 52)).alloc (.cells #[.int .i64 0, .slice none 0 0] 52)).alloc (.cells #[.int .i64 0, .string ⟨#[]⟩] 37)) room A n c := by
  have n1 := heap_alloc_new W (.cells #[.int .i64 room, .slice A n c] 52)
  have n2 := heap_alloc_new (W.alloc (.cells #[.int .i64 room, .slice A n c] 52)) (.cells #[.int .i64 0, .slice none 0 0] 52)
  have n3 := heap_alloc_new ((W.alloc (.cells #[.int .i64 room, .slice A n c] 52)).alloc (.cells #[.int .i64 0, .slice none 0 0] 52)) (.cells #[.int .i64 0, .string ⟨#[]⟩] 37)
  rw [World.size_alloc] at n2
  rw [World.size_alloc, World.size_alloc] at n3
  exact ⟨below_alloc (below_alloc (below_alloc (Below.refl _ _) _) _) _, blk_alloc (blk_alloc n1 _) _, blk_alloc n2 _, n3⟩
theorem qv_at {W : World} {P : Nat → Prop} {A : Option Addr} {c : Nat} {q : List (List RM)} (hq : QV W P A c q) (hp : 0 < q.length) : ∃ b o, A = some ⟨b, o, none⟩ ∧ b < W.heap.size := by
  obtain ⟨b, o, e, hb, _⟩ := Hand.row_at (Kd.V_reads' hq).2.2 hp (by decide)
  exact ⟨b, o, e, hb⟩
theorem qv_row {W : World} {P : Nat → Prop} {b o c : Nat} {q : List (List RM)} (hq : QV W P (some ⟨b, o, none⟩) c q) {u : Nat} (hu : u < q.length) {l : List RM} (hl : q.getD u [] = l) : ∃ A0 c0, W.cell? ⟨b, o + u, none⟩ = some (.slice A0 l.length c0) ∧ l.length ≤ c0 ∧ Kd.F k37 W P A0 l.length l := by
  obtain ⟨cs, _, hf, hc⟩ := Kd.V_get hq [] (u : Int) (by omega) (by omega)
  obtain ⟨A0, c0, rfl, h1, h2⟩ := Kd.FK_slice_open hf
  rw [Int.toNat_natCast, hl] at h1 h2
  have h3 := hc 0 _ rfl
  rw [Int.toNat_natCast, hl] at h3
  rw [show (Kd.slice 37 k37).sz = 1 from rfl, Nat.mul_one, Nat.add_zero] at h3
  refine ⟨A0, c0, ?_, h1, h2⟩
  rw [← h3]
  unfold Addr.add
  split <;> simp_all
set_option maxHeartbeats 8000000 in
set_option maxRecDepth 100000 in
theorem rtake_no (room : Int) (P : Nat → Prop) (A : Option Addr) (c : Nat) (q : List (List RM)) (who : Int) (W : World) (hq : QV W P A c q) (hr : rtakeL q who = (z37, false, q)) :
    Calls Try.prog 31 #[.agg #[.int .i64 room, .slice A q.length c], .int .i64 who] W (RTakePost W P room (rtakeL q who)) := by
  have H0 := Aside0.mk (rt0_mk W room A q.length c)
  have HQ := Aside0.mk hq
  rw [hr]
  have HE := Aside0.mk (show ∀ W1 W2, RT0 W W1 room A q.length c → ((((W1.setCell ⟨W.heap.size + 1, 0, none⟩ (.int .i64 room)).setCell ⟨W.heap.size + 1, 1, none⟩ (.slice A q.length c)).setCell ⟨W.heap.size + 1 + 1, 0, none⟩ (.int .i64 0)).setCell ⟨W.heap.size + 1 + 1, 1, none⟩ (.string ⟨#[]⟩)) = W2 → W2.heap[W.heap.size + 1]? = some (.cells #[.int .i64 room, .slice A q.length c] 52 (0, 0)) ∧ W2.heap[W.heap.size + 1 + 1]? = some (.cells #[.int .i64 0, .string ⟨#[]⟩] 37 (0, 0)) ∧ Below W.heap.size W W2 from fun W1 W2 h e => by
    subst e
    refine ⟨blk_far (blk_far (blk_set (blk_set h.b1 0 _) 1 _) ?_ _) ?_ _, blk_set (blk_set (blk_far (blk_far h.b2 ?_ _) ?_ _) 0 _) 1 _, ?_⟩
    · show W.heap.size + 1 ≠ W.heap.size + 1 + 1; omega
    · show W.heap.size + 1 ≠ W.heap.size + 1 + 1; omega
    · show W.heap.size + 1 + 1 ≠ W.heap.size + 1; omega
    · show W.heap.size + 1 + 1 ≠ W.heap.size + 1; omega
    · exact (((h.below.setCell (p := ⟨W.heap.size + 1, 0, none⟩) (by show W.heap.size ≤ W.heap.size + 1; omega) _).setCell (p := ⟨W.heap.size + 1, 1, none⟩) (by show W.heap.size ≤ W.heap.size + 1; omega) _).setCell (p := ⟨W.heap.size + 1 + 1, 0, none⟩) (by show W.heap.size ≤ W.heap.size + 1 + 1; omega) _).setCell (p := ⟨W.heap.size + 1 + 1, 1, none⟩) (by show W.heap.size ≤ W.heap.size + 1 + 1; omega) _)
  unfold rtakeL at hr
  by_cases h0 : who < 0
  · have d0 : decide (who < 0) = true := decide_eq_true h0
    clear hq hr
    go_enter Try.func31, Try.ntmps31
    go_upto_region 1 with (fail)
    generalize hW1 : World.alloc (World.alloc (World.alloc W _) _) _ = W1
    have h1 : RT0 W W1 room A q.length c := hW1 ▸ H0.out
    have p0 : W1.cell? ⟨W.heap.size, 0, none⟩ = some (.int .i64 room) := blk_cell h1.b0 0
    have p1 : W1.cell? ⟨W.heap.size, 1, none⟩ = some (.slice A q.length c) := blk_cell h1.b0 1
    have r10 : W1.cell? ⟨W.heap.size + 1, 0, none⟩ = some (.int .i64 0) := blk_cell h1.b1 0
    have r11 : W1.cell? ⟨W.heap.size + 1, 1, none⟩ = some (.slice none 0 0) := blk_cell h1.b1 1
    have r20 : W1.cell? ⟨W.heap.size + 1 + 1, 0, none⟩ = some (.int .i64 0) := blk_cell h1.b2 0
    have r21 : W1.cell? ⟨W.heap.size + 1 + 1, 1, none⟩ = some (.string ⟨#[]⟩) := blk_cell h1.b2 1
    have s10 : W1.frozen? ⟨W.heap.size + 1, 0, none⟩ = false := blk_frozen h1.b1 0
    have s11 : W1.frozen? ⟨W.heap.size + 1, 1, none⟩ = false := blk_frozen h1.b1 1
    have s20 : W1.frozen? ⟨W.heap.size + 1 + 1, 0, none⟩ = false := blk_frozen h1.b2 0
    have s21 : W1.frozen? ⟨W.heap.size + 1 + 1, 1, none⟩ = false := blk_frozen h1.b2 1
    have H1 := Aside0.mk h1
    clear hW1 h1 H0
    go_wp2
    generalize hW2 : World.setCell _ _ _ = W2
    obtain ⟨o1, o2, hb2⟩ := HE.out W1 W2 H1.out hW2
    have e0 : W2.cell? ⟨W.heap.size + 1, 0, none⟩ = some (.int .i64 room) := blk_cell o1 0
    have e1 : W2.cell? ⟨W.heap.size + 1, 1, none⟩ = some (.slice A q.length c) := blk_cell o1 1
    have e2 : W2.cell? ⟨W.heap.size + 1 + 1, 0, none⟩ = some (.int .i64 0) := blk_cell o2 0
    have e3 : W2.cell? ⟨W.heap.size + 1 + 1, 1, none⟩ = some (.string ⟨#[]⟩) := blk_cell o2 1
    exact bodyPost_ret (v := .tuple #[.agg #[.int .i64 room, .slice A q.length c], .agg #[.int .i64 0, .string ⟨#[]⟩], .bool false]) (by simp [results, Try.results31, go_sem, e0, e1, e2, e3]) rfl ⟨A, c, rfl, Kd.V_mono (Kd.V_below HQ.out hb2) (fun _ h => .inl h), hb2⟩
  · have d0 : decide (who < 0) = false := decide_eq_false h0
    by_cases h1 : who < (q.length : Int)
    · obtain ⟨u, rfl⟩ := Int.eq_ofNat_of_zero_le (show 0 ≤ who by omega)
      have d1 : decide ((u : Int) ≥ (q.length : Int)) = false := decide_eq_false (by omega)
      have d2 : decide ((q.length : Int) ≤ (u : Int)) = false := decide_eq_false (by omega)
      rw [if_pos ⟨by omega, h1⟩, Int.toNat_natCast] at hr
      have hu : u < q.length := by omega
      have hi0 : (u : Int) < (q.length : Int) := h1
      obtain ⟨b, o, rfl, hbl⟩ := qv_at hq (by omega)
      obtain ⟨A0, c0, x0, _, _⟩ := qv_row hq hu (l := []) (by
        cases h5 : q.getD u [] with
        | nil => rfl
        | cons x l => rw [h5] at hr; simp at hr)
      have HX := Aside0.mk (fun (W1 : World) (h : Below W.heap.size W W1) => (h.cell (p := ⟨b, o + u, none⟩) hbl).trans x0)
      clear hq hr x0
      go_enter Try.func31, Try.ntmps31
      go_upto_region 1 with (fail)
      generalize hW1 : World.alloc (World.alloc (World.alloc W _) _) _ = W1
      have h1 : RT0 W W1 room (some ⟨b, o, none⟩) q.length c := hW1 ▸ H0.out
      have p0 : W1.cell? ⟨W.heap.size, 0, none⟩ = some (.int .i64 room) := blk_cell h1.b0 0
      have p1 : W1.cell? ⟨W.heap.size, 1, none⟩ = some (.slice (some ⟨b, o, none⟩) q.length c) := blk_cell h1.b0 1
      have r10 : W1.cell? ⟨W.heap.size + 1, 0, none⟩ = some (.int .i64 0) := blk_cell h1.b1 0
      have r11 : W1.cell? ⟨W.heap.size + 1, 1, none⟩ = some (.slice none 0 0) := blk_cell h1.b1 1
      have r20 : W1.cell? ⟨W.heap.size + 1 + 1, 0, none⟩ = some (.int .i64 0) := blk_cell h1.b2 0
      have r21 : W1.cell? ⟨W.heap.size + 1 + 1, 1, none⟩ = some (.string ⟨#[]⟩) := blk_cell h1.b2 1
      have s10 : W1.frozen? ⟨W.heap.size + 1, 0, none⟩ = false := blk_frozen h1.b1 0
      have s11 : W1.frozen? ⟨W.heap.size + 1, 1, none⟩ = false := blk_frozen h1.b1 1
      have s20 : W1.frozen? ⟨W.heap.size + 1 + 1, 0, none⟩ = false := blk_frozen h1.b2 0
      have s21 : W1.frozen? ⟨W.heap.size + 1 + 1, 1, none⟩ = false := blk_frozen h1.b2 1
      have H1 := Aside0.mk h1
      clear hW1 h1 H0
      have x0 := HX.out W1 H1.out.below
      go_wp2
      generalize hW2 : World.setCell _ _ _ = W2
      obtain ⟨o1, o2, hb2⟩ := HE.out W1 W2 H1.out hW2
      have e0 : W2.cell? ⟨W.heap.size + 1, 0, none⟩ = some (.int .i64 room) := blk_cell o1 0
      have e1 : W2.cell? ⟨W.heap.size + 1, 1, none⟩ = some (.slice (some ⟨b, o, none⟩) q.length c) := blk_cell o1 1
      have e2 : W2.cell? ⟨W.heap.size + 1 + 1, 0, none⟩ = some (.int .i64 0) := blk_cell o2 0
      have e3 : W2.cell? ⟨W.heap.size + 1 + 1, 1, none⟩ = some (.string ⟨#[]⟩) := blk_cell o2 1
      exact bodyPost_ret (v := .tuple #[.agg #[.int .i64 room, .slice (some ⟨b, o, none⟩) q.length c], .agg #[.int .i64 0, .string ⟨#[]⟩], .bool false]) (by simp [results, Try.results31, go_sem, e0, e1, e2, e3]) rfl ⟨(some ⟨b, o, none⟩), c, rfl, Kd.V_mono (Kd.V_below HQ.out hb2) (fun _ h => .inl h), hb2⟩
    · have d1 : decide (who ≥ (q.length : Int)) = true := decide_eq_true (by omega)
      have d2 : decide ((q.length : Int) ≤ who) = true := decide_eq_true (by omega)
      clear hq hr
      go_enter Try.func31, Try.ntmps31
      go_upto_region 1 with (fail)
      generalize hW1 : World.alloc (World.alloc (World.alloc W _) _) _ = W1
      have h1 : RT0 W W1 room A q.length c := hW1 ▸ H0.out
      have p0 : W1.cell? ⟨W.heap.size, 0, none⟩ = some (.int .i64 room) := blk_cell h1.b0 0
      have p1 : W1.cell? ⟨W.heap.size, 1, none⟩ = some (.slice A q.length c) := blk_cell h1.b0 1
      have r10 : W1.cell? ⟨W.heap.size + 1, 0, none⟩ = some (.int .i64 0) := blk_cell h1.b1 0
      have r11 : W1.cell? ⟨W.heap.size + 1, 1, none⟩ = some (.slice none 0 0) := blk_cell h1.b1 1
      have r20 : W1.cell? ⟨W.heap.size + 1 + 1, 0, none⟩ = some (.int .i64 0) := blk_cell h1.b2 0
      have r21 : W1.cell? ⟨W.heap.size + 1 + 1, 1, none⟩ = some (.string ⟨#[]⟩) := blk_cell h1.b2 1
      have s10 : W1.frozen? ⟨W.heap.size + 1, 0, none⟩ = false := blk_frozen h1.b1 0
      have s11 : W1.frozen? ⟨W.heap.size + 1, 1, none⟩ = false := blk_frozen h1.b1 1
      have s20 : W1.frozen? ⟨W.heap.size + 1 + 1, 0, none⟩ = false := blk_frozen h1.b2 0
      have s21 : W1.frozen? ⟨W.heap.size + 1 + 1, 1, none⟩ = false := blk_frozen h1.b2 1
      have H1 := Aside0.mk h1
      clear hW1 h1 H0
      go_wp2
      generalize hW2 : World.setCell _ _ _ = W2
      obtain ⟨o1, o2, hb2⟩ := HE.out W1 W2 H1.out hW2
      have e0 : W2.cell? ⟨W.heap.size + 1, 0, none⟩ = some (.int .i64 room) := blk_cell o1 0
      have e1 : W2.cell? ⟨W.heap.size + 1, 1, none⟩ = some (.slice A q.length c) := blk_cell o1 1
      have e2 : W2.cell? ⟨W.heap.size + 1 + 1, 0, none⟩ = some (.int .i64 0) := blk_cell o2 0
      have e3 : W2.cell? ⟨W.heap.size + 1 + 1, 1, none⟩ = some (.string ⟨#[]⟩) := blk_cell o2 1
      exact bodyPost_ret (v := .tuple #[.agg #[.int .i64 room, .slice A q.length c], .agg #[.int .i64 0, .string ⟨#[]⟩], .bool false]) (by simp [results, Try.results31, go_sem, e0, e1, e2, e3]) rfl ⟨A, c, rfl, Kd.V_mono (Kd.V_below HQ.out hb2) (fun _ h => .inl h), hb2⟩
theorem rt0_step {W W1 W2 : World} {room : Int} {A : Option Addr} {n c : Nat} (h : RT0 W W1 room A n c) (hb : Below W1.heap.size W1 W2) : RT0 W W2 room A n c := ⟨below_step h.below hb, blk_below h.b0 hb, blk_below h.b1 hb, blk_below h.b2 hb⟩
/-- The first result's box is written. -/
structure RT1 (W W' : World) (room : Int) (A : Option Addr) (n c : Nat) (u v : Value) : Prop where
  below : Below W.heap.size W W'
  b0 : W'.heap[W.heap.size]? = some (.cells #[.int .i64 room, .slice A n c] 52 (0, 0))
  b1 : W'.heap[W.heap.size + 1]? = some (.cells #[u, v] 52 (0, 0))
  b2 : W'.heap[W.heap.size + 1 + 1]? = some (.cells #[.int .i64 0, .string ⟨#[]⟩] 37 (0, 0))
theorem rt0_out {W w3 : World} {room : Int} {A : Option Addr} {n c : Nat} (h : RT0 W w3 room A n c) (u v : Value) : RT1 W ((w3.setCell ⟨W.heap.size + 1, 0, none⟩ u).setCell ⟨W.heap.size + 1, 1, none⟩ v) room A n c u v := by
  refine ⟨(h.below.setCell (p := ⟨W.heap.size + 1, 0, none⟩) (by show W.heap.size ≤ W.heap.size + 1; omega) _).setCell (p := ⟨W.heap.size + 1, 1, none⟩) (by show W.heap.size ≤ W.heap.size + 1; omega) _, blk_far (blk_far h.b0 ?_ _) ?_ _, blk_set (blk_set h.b1 0 _) 1 _, blk_far (blk_far h.b2 ?_ _) ?_ _⟩
  · show W.heap.size ≠ W.heap.size + 1; omega
  · show W.heap.size ≠ W.heap.size + 1; omega
  · show W.heap.size + 1 + 1 ≠ W.heap.size + 1; omega
  · show W.heap.size + 1 + 1 ≠ W.heap.size + 1; omega
theorem rt1_out {W w4 : World} {room : Int} {A : Option Addr} {n c : Nat} {u v : Value} (h : RT1 W w4 room A n c u v) (a b : Value) {W2 : World} (e : (w4.setCell ⟨W.heap.size + 1 + 1, 0, none⟩ a).setCell ⟨W.heap.size + 1 + 1, 1, none⟩ b = W2) :
    W2.heap[W.heap.size + 1]? = some (.cells #[u, v] 52 (0, 0)) ∧ W2.heap[W.heap.size + 1 + 1]? = some (.cells #[a, b] 37 (0, 0)) ∧ Below W.heap.size W W2 := by
  subst e
  refine ⟨blk_far (blk_far h.b1 ?_ _) ?_ _, blk_set (blk_set h.b2 0 _) 1 _, (h.below.setCell (p := ⟨W.heap.size + 1 + 1, 0, none⟩) (by show W.heap.size ≤ W.heap.size + 1 + 1; omega) _).setCell (p := ⟨W.heap.size + 1 + 1, 1, none⟩) (by show W.heap.size ≤ W.heap.size + 1 + 1; omega) _⟩
  · show W.heap.size + 1 ≠ W.heap.size + 1 + 1; omega
  · show W.heap.size + 1 ≠ W.heap.size + 1 + 1; omega
set_option maxHeartbeats 8000000 in
set_option maxRecDepth 100000 in
theorem rtake_yes (room : Int) (P : Nat → Prop) (A : Option Addr) (c : Nat) (q : List (List RM)) (u : Nat) (x : RM) (l : List RM) (W : World) (hq : QV W P A c q) (hu : u < q.length) (hf : q.length ≤ 16) (hr : q.getD u [] = x :: l) :
    Calls Try.prog 31 #[.agg #[.int .i64 room, .slice A q.length c], .int .i64 (u : Int)] W (RTakePost W P room (x, true, q.set u l)) := by
  have H0 := Aside0.mk (rt0_mk W room A q.length c)
  have HQ := Aside0.mk (Kd.V_bound hq)
  have d0 : decide ((u : Int) < 0) = false := decide_eq_false (by omega)
  have d1 : decide ((u : Int) ≥ (q.length : Int)) = false := decide_eq_false (by omega)
  have d2 : decide ((q.length : Int) ≤ (u : Int)) = false := decide_eq_false (by omega)
  have hi0 : (u : Int) < (q.length : Int) := by omega
  obtain ⟨b, o, rfl, hbl⟩ := qv_at hq (by omega)
  obtain ⟨A0, c0, x0, hc0, hF⟩ := qv_row (Kd.V_bound hq) hu hr
  obtain ⟨b2, o2, rfl, hbl2, hrow⟩ := Hand.row_at (Kd.F_now hF) (show 0 < (x :: l).length by simp) (by decide)
  obtain ⟨cs, _, hk, hcl⟩ := hrow 0 x rfl
  obtain rfl := Ppt.k37_open hk
  rw [List.length_cons] at x0 hc0
  have HX := Aside0.mk (fun (W1 : World) (h : Below W.heap.size W W1) => (h.cell (p := ⟨b, o + u, none⟩) hbl).trans x0)
  have HY := Aside0.mk (fun (W1 : World) (h : Below W.heap.size W W1) => (show W1.cell? ⟨b2, o2, none⟩ = some (.int .i64 x.f0) ∧ W1.cell? ⟨b2, o2 + 1, none⟩ = some (.string x.f1) from ⟨(h.cell (p := ⟨b2, o2, none⟩) hbl2).trans (by simpa using hcl 0 _ rfl), (h.cell (p := ⟨b2, o2 + 1, none⟩) hbl2).trans (by simpa using hcl 1 _ rfl)⟩))
  have HF := Aside0.mk hF
  have HFw := Aside0.mk hf
  have HC := Aside0.mk hc0
  have e3 : (l.length + 1 = 0) = False := eq_false (by omega)
  have e4 : (((l.length + 1 : Nat) : Int) == 0) = false := beq_false_of_ne (by omega)
  have e5 : ((l.length : Int) + 1 == 0) = false := beq_false_of_ne (by omega)
  clear hq hr x0 hF hcl hk hrow hf hc0
  go_enter Try.func31, Try.ntmps31
  go_upto_region 1 with (fail)
  generalize hW1 : World.alloc (World.alloc (World.alloc W _) _) _ = W1
  have h1 : RT0 W W1 room (some ⟨b, o, none⟩) q.length c := hW1 ▸ H0.out
  have p0 : W1.cell? ⟨W.heap.size, 0, none⟩ = some (.int .i64 room) := blk_cell h1.b0 0
  have p1 : W1.cell? ⟨W.heap.size, 1, none⟩ = some (.slice (some ⟨b, o, none⟩) q.length c) := blk_cell h1.b0 1
  have x0 := HX.out W1 h1.below
  obtain ⟨y0, y1⟩ := HY.out W1 h1.below
  have H1 := Aside0.mk h1
  clear hW1 h1 H0
  go_upto_region 4 with (fail)
  have h2 := rt0_step H1.out (below_alloc (Below.refl _ _) (.cells #[.int .i64 x.f0, .string x.f1] 37))
  have hm := heap_alloc_new W1 (.cells #[.int .i64 x.f0, .string x.f1] 37)
  have hgm : W.heap.size + 1 + 1 < W1.heap.size := blk_lt H1.out.b2
  clear p0 p1 x0 y0 y1
  generalize W1.heap.size = gm at *
  generalize World.alloc W1 _ = W2 at *
  have p0 : W2.cell? ⟨W.heap.size, 0, none⟩ = some (.int .i64 room) := blk_cell h2.b0 0
  have p1 : W2.cell? ⟨W.heap.size, 1, none⟩ = some (.slice (some ⟨b, o, none⟩) q.length c) := blk_cell h2.b0 1
  have x0 := HX.out W2 h2.below
  have m0 : W2.cell? ⟨gm, 0, none⟩ = some (.int .i64 x.f0) := blk_cell hm 0
  have m1 : W2.cell? ⟨gm, 1, none⟩ = some (.string x.f1) := blk_cell hm 1
  have H2 := Aside0.mk h2
  have HM := Aside0.mk hm
  have hcc : l.length + 1 ≤ c0 := HC.out
  have hsl : (1 : Int) ≤ (l.length : Int) + 1 := by omega
  have HV1 := Aside0.mk (show Kd.V kR 83 W2.drew W2.drew.heap.size (fun k => P k ∧ k < W.heap.size) (.slice (some ⟨b, o, none⟩) q.length c) q from Kd.V_below HQ.out (below_drew H2.out.below))
  have HV2 := Aside0.mk (show Kd.V k37 37 W2.drew W2.drew.heap.size (fun k => P k ∧ k < W.heap.size) (.slice (if c0 = 1 then some ⟨b2, o2, none⟩ else some ⟨b2, o2 + 2, none⟩) l.length (c0 - 1)) l from Kd.V_mk (by omega) (by
    have h5 := Kd.F_cut (m := 1) (c := c0) (Kd.F_below HF.out (below_drew H2.out.below)) (by simp) (by simpa using hcc)
    exact h5))
  have HGm := Aside0.mk (show W.heap.size + 1 + 1 < gm from hgm)
  have HS1 := Aside0.mk (fun (w3 : World) (A9 : Option Addr) (n c9 : Nat) (h : RT0 W w3 room (some ⟨b, o, none⟩) q.length c) => rt0_out h (.int .i64 room) (.slice A9 n c9))
  have HWf := Aside0.mk (show Ppt.cloisterref16_with.f room q (u : Int) l = some (room, q.set u l) from by
    have h5 := HFw.out
    unfold Ppt.cloisterref16_with.f
    rw [if_pos (by simp; omega)]
    simp only [Option.bind_some, List.nil_append, Int.toNat_natCast]
    rw [if_pos (by omega), if_pos (by omega)])
  clear H1 HY h2 hm
  refine start_ (n := 13) (S := fun w' => w'.cell? ⟨W.heap.size, 0, none⟩ = some (.int .i64 room) ∧ w'.cell? ⟨W.heap.size, 1, none⟩ = some (.slice (some ⟨b, o, none⟩) q.length c) ∧ w'.cell? ⟨b, o + u, none⟩ = some (.slice (some ⟨b2, o2, none⟩) (l.length + 1) c0) ∧ w'.cell? ⟨gm, 0, none⟩ = some (.int .i64 x.f0) ∧ w'.cell? ⟨gm, 1, none⟩ = some (.string x.f1)) (ds := [11]) #[false, false, false, false, false, false, false, false, false, false, false, false, false] (by kernel_rfl) rfl rfl ⟨p0, p1, x0, m0, m1⟩ (fun hHeld => ?_)
  refine pure_ (i := 1) (N := some 36) (v := ?_) (a' := ?_) #[false, true, false, false, false, false, false, false, false, false, false, false, false] rfl rfl (by kernel_rfl) (fun _ _ _ h => h) (Or.inl ⟨by rfl, ?_⟩) ?_ ?_
  rotate_left
  · intro w'
    go_simp
    with_reducible rfl
  rotate_left
  · simp only [Act.put, List.setIfInBounds_toArray, List.set_cons_zero, List.set_cons_succ, i64_w, i32_w]
    rfl
  refine pure_ (i := 2) (N := some 37) (v := ?_) (a' := ?_) #[false, true, true, false, false, false, false, false, false, false, false, false, false] rfl rfl (by kernel_rfl) (fun _ _ _ h => h) (Or.inl ⟨by rfl, ?_⟩) ?_ ?_
  rotate_left
  · intro w'
    go_simp
    with_reducible rfl
  rotate_left
  · simp only [Act.put, List.setIfInBounds_toArray, List.set_cons_zero, List.set_cons_succ, i64_w, i32_w]
    rfl
  refine pure_ (i := 4) (N := some 39) (v := ?_) (a' := ?_) #[false, true, true, false, true, false, false, false, false, false, false, false, false] rfl rfl (by kernel_rfl) (fun _ _ _ h => h) (Or.inl ⟨by rfl, ?_⟩) ?_ ?_
  rotate_left
  · intro w'
    go_simp
    with_reducible rfl
  rotate_left
  · simp only [Act.put, List.setIfInBounds_toArray, List.set_cons_zero, List.set_cons_succ, i64_w, i32_w]
    rfl
  refine take_ (i := 0) (N := some 35) (v := ?_) (a' := ?_) #[true, true, true, false, true, false, false, false, false, false, false, false, false] rfl rfl (by kernel_rfl) (fun _ _ _ h => h) (Or.inl ⟨by rfl, ?_⟩) hHeld ?_ ?_
  rotate_left
  · rintro w' ⟨s0, s1, s2, s3, s4⟩
    go_simp
    with_reducible rfl
  rotate_left
  · simp only [Act.put, List.setIfInBounds_toArray, List.set_cons_zero, List.set_cons_succ, i64_w, i32_w]
    rfl
  refine take_ (i := 3) (N := some 38) (v := ?_) (a' := ?_) #[true, true, true, true, true, false, false, false, false, false, false, false, false] rfl rfl (by kernel_rfl) (fun _ _ _ h => h) (Or.inl ⟨by rfl, ?_⟩) hHeld ?_ ?_
  rotate_left
  · rintro w' ⟨s0, s1, s2, s3, s4⟩
    go_simp
    with_reducible rfl
  rotate_left
  · simp only [Act.put, List.setIfInBounds_toArray, List.set_cons_zero, List.set_cons_succ, i64_w, i32_w]
    rfl
  refine pure_ (i := 5) (N := some 40) (v := ?_) (a' := ?_) #[true, true, true, true, true, true, false, false, false, false, false, false, false] rfl rfl (by kernel_rfl) (fun _ _ _ h => h) (Or.inl ⟨by rfl, ?_⟩) ?_ ?_
  rotate_left
  · intro w'
    go_simp
    with_reducible rfl
  rotate_left
  · simp only [Act.put, List.setIfInBounds_toArray, List.set_cons_zero, List.set_cons_succ, i64_w, i32_w]
    rfl
  refine take_ (i := 6) (N := some 41) (v := ?_) (a' := ?_) #[true, true, true, true, true, true, true, false, false, false, false, false, false] rfl rfl (by kernel_rfl) (fun _ _ _ h => h) (Or.inl ⟨by rfl, ?_⟩) hHeld ?_ ?_
  rotate_left
  · rintro w' ⟨s0, s1, s2, s3, s4⟩
    go_simp
    with_reducible rfl
  rotate_left
  · simp only [Act.put, List.setIfInBounds_toArray, List.set_cons_zero, List.set_cons_succ, i64_w, i32_w]
    rfl
  refine pure_ (i := 7) (N := some 42) (v := ?_) (a' := ?_) #[true, true, true, true, true, true, true, true, false, false, false, false, false] rfl rfl (by kernel_rfl) (fun _ _ _ h => h) (Or.inl ⟨by rfl, ?_⟩) ?_ ?_
  rotate_left
  · intro w'
    go_simp
    with_reducible rfl
  rotate_left
  · simp only [Act.put, List.setIfInBounds_toArray, List.set_cons_zero, List.set_cons_succ, i64_w, i32_w]
    rfl
  refine take_ (i := 9) (N := some 44) (v := ?_) (a' := ?_) #[true, true, true, true, true, true, true, true, false, true, false, false, false] rfl rfl (by kernel_rfl) (fun _ _ _ h => h) (Or.inl ⟨by rfl, ?_⟩) hHeld ?_ ?_
  rotate_left
  · rintro w' ⟨s0, s1, s2, s3, s4⟩
    go_simp
    with_reducible rfl
  rotate_left
  · simp only [Act.put, List.setIfInBounds_toArray, List.set_cons_zero, List.set_cons_succ, i64_w, i32_w]
    rfl
  refine one_ (i := 8) (N := some 43) #[true, true, true, true, true, true, true, true, true, true, false, false, false] rfl rfl (by kernel_rfl) (by decide) (fun K hK => ?_)
  refine goes_ Try.func43 (by kernel_rfl) rfl #[.agg #[.int .i64 room, .slice (some ⟨b, o, none⟩) q.length c], .int .i64 (u : Int), .slice (if c0 = 1 then some ⟨b2, o2, none⟩ else some ⟨b2, o2 + 2, none⟩) l.length (c0 - 1)] (by rfl) rfl rfl (by simp only [List.map_toArray, List.map_cons, List.map_nil]; rfl) ?_
  with_reducible refine (Ppt.cloisterref16_with.calls room (fun k => P k ∧ k < W.heap.size) (some ⟨b, o, none⟩) c q (u : Int) (fun k => P k ∧ k < W.heap.size) _ (c0 - 1) l room (q.set u l) W2.drew HV1.out HV2.out HWf.out).mono ?_
  rintro e w3 ⟨v1, rfl, hN, hb3⟩
  refine ⟨_, rfl, ?_⟩
  obtain ⟨A9, c9, rfl⟩ := Kd.N_slice hN
  have hql : (q.set u l).length = q.length := List.length_set
  have h3 := rt0_step (rt0_step H2.out (below_drew (Below.refl _ _))) hb3
  have hm3 := blk_below (show W2.drew.heap[gm]? = some (.cells #[.int .i64 x.f0, .string x.f1] 37 (0, 0)) from HM.out) hb3
  have a0 : w3.cell? ⟨W.heap.size, 0, none⟩ = some (.int .i64 room) := blk_cell h3.b0 0
  have a1 : w3.cell? ⟨W.heap.size, 1, none⟩ = some (.slice (some ⟨b, o, none⟩) q.length c) := blk_cell h3.b0 1
  have a2 := HX.out w3 h3.below
  have a3 : w3.cell? ⟨gm, 0, none⟩ = some (.int .i64 x.f0) := blk_cell hm3 0
  have a4 : w3.cell? ⟨gm, 1, none⟩ = some (.string x.f1) := blk_cell hm3 1
  have r10 : w3.cell? ⟨W.heap.size + 1, 0, none⟩ = some (.int .i64 0) := blk_cell h3.b1 0
  have r11 : w3.cell? ⟨W.heap.size + 1, 1, none⟩ = some (.slice none 0 0) := blk_cell h3.b1 1
  have s10 : w3.frozen? ⟨W.heap.size + 1, 0, none⟩ = false := blk_frozen h3.b1 0
  have s11 : w3.frozen? ⟨W.heap.size + 1, 1, none⟩ = false := blk_frozen h3.b1 1
  have r20 : w3.cell? ⟨W.heap.size + 1 + 1, 0, none⟩ = some (.int .i64 0) := blk_cell h3.b2 0
  have r21 : w3.cell? ⟨W.heap.size + 1 + 1, 1, none⟩ = some (.string ⟨#[]⟩) := blk_cell h3.b2 1
  have s20 : w3.frozen? ⟨W.heap.size + 1 + 1, 0, none⟩ = false := blk_frozen h3.b2 0
  have s21 : w3.frozen? ⟨W.heap.size + 1 + 1, 1, none⟩ = false := blk_frozen h3.b2 1
  have H3 := Aside0.mk h3
  have HN := Aside0.mk hN
  have HB3 := Aside0.mk hb3
  have HM3 := Aside0.mk hm3
  clear h3 hN hb3 hm3
  refine hK.out _ _ ⟨a0, a1, a2, a3, a4⟩ (fun hHeld => ?_)
  clear hK K
  refine norm_ (a' := ?_) ?_ ?_
  rotate_left
  · show Act.put _ (some 43) _ = _
    simp only [Act.put, List.setIfInBounds_toArray, List.set_cons_zero, List.set_cons_succ, i64_w, i32_w]
    rfl
  refine one_ (i := 10) (N := none) #[true, true, true, true, true, true, true, true, true, true, true, false, false] rfl rfl (by kernel_rfl) (by decide) (fun K hK => ?_)
  refine skip_ (w1 := ?_) (by rfl) rfl ?_ ?_
  rotate_left
  · go_simp
    rfl
  have H4 := Aside0.mk (HS1.out w3 A9 q.length c9 H3.out)
  have hgw := HGm.out
  have hm4 := blk_far (p := ⟨W.heap.size + 1, 1, none⟩) (blk_far (p := ⟨W.heap.size + 1, 0, none⟩) HM3.out (show gm ≠ W.heap.size + 1 by omega) (.int .i64 room)) (show gm ≠ W.heap.size + 1 by omega) (.slice A9 q.length c9)
  have HM4 := Aside0.mk hm4
  have t20 : ((w3.setCell ⟨W.heap.size + 1, 0, none⟩ (.int .i64 room)).setCell ⟨W.heap.size + 1, 1, none⟩ (.slice A9 q.length c9)).cell? ⟨W.heap.size + 1 + 1, 0, none⟩ = some (.int .i64 0) := blk_cell H4.out.b2 0
  clear hm4
  refine hK.out _ _ ⟨blk_cell H4.out.b0 0, blk_cell H4.out.b0 1, HX.out _ H4.out.below, blk_cell HM4.out 0, blk_cell HM4.out 1⟩ (fun hHeld => ?_)
  clear hK K
  refine last_ (i := 11) (N := none) #[true, true, true, true, true, true, true, true, true, true, true, true, false] rfl rfl (by kernel_rfl) (by decide) (fun K hK => ?_)
  refine skip_ (w1 := ?_) (by rfl) rfl ?_ ?_
  rotate_left
  · go_simp
    rfl
  refine hK.out _ _ ?_
  clear hK K
  refine pure_ (i := 12) (N := some 6) (v := ?_) (a' := ?_) #[true, true, true, true, true, true, true, true, true, true, true, true, true] rfl rfl (by kernel_rfl) (fun _ _ _ h => h) (Or.inl ⟨by rfl, ?_⟩) ?_ ?_
  rotate_left
  · intro w'
    go_simp
    with_reducible rfl
  rotate_left
  · simp only [Act.put, List.setIfInBounds_toArray, List.set_cons_zero, List.set_cons_succ, i64_w, i32_w]
    rfl
  refine done_ (by kernel_rfl) ?_

  clear HV2
  generalize (if c0 = 1 then some (⟨b2, o2, none⟩ : Addr) else some ⟨b2, o2 + 2, none⟩) = AX
  go_wp2
  generalize hW2 : World.setCell _ _ _ = W5
  obtain ⟨o1, o2, hb2⟩ := rt1_out H4.out _ _ hW2
  have e0 : W5.cell? ⟨W.heap.size + 1, 0, none⟩ = some (.int .i64 room) := blk_cell o1 0
  have e1 : W5.cell? ⟨W.heap.size + 1, 1, none⟩ = some (.slice A9 q.length c9) := blk_cell o1 1
  have e2 : W5.cell? ⟨W.heap.size + 1 + 1, 0, none⟩ = some (.int .i64 x.f0) := blk_cell o2 0
  have e3 : W5.cell? ⟨W.heap.size + 1 + 1, 1, none⟩ = some (.string x.f1) := blk_cell o2 1
  have hzz : gm < W2.heap.size := blk_lt HM.out
  have hgg := HGm.out
  have hne : ∀ a, W.heap.size < a → a ≤ W.heap.size + 1 + 1 → ∀ k, ((P k ∧ k < W.heap.size) ∨ (P k ∧ k < W.heap.size)) ∨ W2.drew.heap.size ≤ k → k ≠ a := fun a h1 h2 k hk => by
    have : W2.drew.heap.size = W2.heap.size := rfl
    rcases hk with (hk | hk) | hk <;> omega
  have hv : Kd.V kR 83 W5 W.heap.size (fun k => P k ∨ W.heap.size ≤ k) (.slice A9 (q.set u l).length c9) (q.set u l) := by
    rw [← hW2]
    refine Kd.V_mono (ok := fun k => ((P k ∧ k < W.heap.size) ∨ (P k ∧ k < W.heap.size)) ∨ W2.drew.heap.size ≤ k) (Kd.V_far (Kd.V_far (Kd.V_far (Kd.V_far (Kd.N_V HN.out) (p := ⟨W.heap.size + 1, 0, none⟩) (hne (W.heap.size + 1) (by omega) (by omega)) _) (p := ⟨W.heap.size + 1, 1, none⟩) (hne (W.heap.size + 1) (by omega) (by omega)) _) (p := ⟨W.heap.size + 1 + 1, 0, none⟩) (hne (W.heap.size + 1 + 1) (by omega) (by omega)) _) (p := ⟨W.heap.size + 1 + 1, 1, none⟩) (hne (W.heap.size + 1 + 1) (by omega) (by omega)) _) (fun k hk => ?_)
    have : W2.drew.heap.size = W2.heap.size := rfl
    rcases hk with (hk | hk) | hk
    · exact .inl hk.1
    · exact .inl hk.1
    · exact .inr (by omega)
  exact bodyPost_ret (v := .tuple #[.agg #[.int .i64 room, .slice A9 q.length c9], .agg #[.int .i64 x.f0, .string x.f1], .bool true]) (by simp [results, Try.results31, go_sem, e0, e1, e2, e3]) rfl ⟨A9, c9, by rw [hql], hv, hb2⟩
theorem rtake_calls (room : Int) (P : Nat → Prop) (A : Option Addr) (c : Nat) (q : List (List RM)) (who : Int) (W : World) (hq : QV W P A c q) (hf : q.length ≤ 16) : Calls Try.prog 31 #[.agg #[.int .i64 room, .slice A q.length c], .int .i64 who] W (RTakePost W P room (rtakeL q who)) := by
  by_cases hw : 0 ≤ who ∧ who < (q.length : Int)
  · obtain ⟨u, rfl⟩ := Int.eq_ofNat_of_zero_le hw.1
    cases hr : q.getD u [] with
    | nil => exact rtake_no room P A c q u W hq (by unfold rtakeL; rw [if_pos hw, Int.toNat_natCast, hr])
    | cons x l =>
      have := rtake_yes room P A c q u x l W hq (by omega) hf hr
      rw [show rtakeL q (u : Int) = (x, true, q.set u l) from by unfold rtakeL; rw [if_pos hw, Int.toNat_natCast, hr]]
      exact this
  · exact rtake_no room P A c q who W hq (by unfold rtakeL; rw [if_neg hw])
end Go.Proofs.Ytclhddldbfdfdaa.PoW
