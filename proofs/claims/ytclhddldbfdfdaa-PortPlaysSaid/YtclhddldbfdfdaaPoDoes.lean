/- The law's does. -/
import Derived.Test.YtclhddldbfdfdaaPoSnd
namespace Go.Proofs.Ytclhddldbfdfdaa.PoW
open Go.RowKit Go.Proofs.YtclhddldbfdfdaaW.PrintWords Go.Proofs.YtclhddldbfdfdaaW.PrintMore Go.Proofs.YtclhddldbfdfdaaW.PrintLast Go.Proofs.Ytclhddldbfdfdaa.LabF Go.Proofs.Ytclhddldbfdfdaa.SetF
set_option linter.unusedVariables false
set_option linter.unusedSimpArgs false
/-- Mailboxes and the reference's lists. -/
structure PW (w0 W : World) (gp room : Nat) (mbs : List (Nat × Nat)) (q : List (List RM)) (A : Option Addr) (c : Nat) (ρ : Own) : Prop where
  below : Below w0.heap.size w0 W
  p : PAt W w0.heap.size ρ 1 gp room mbs (qL q)
  v : QV W (fun k => ρ k = some (0, 0)) A c q
  bs : ∀ k i, ρ k = some (1, i) → w0.heap.size ≤ k
def DoesPost (w0 W : World) (gp room : Nat) (mbs : List (Nat × Nat)) (q' : List (List RM)) (ρ : Own) (e : Ending) (W' : World) : Prop := ∃ A' c' ρ', e = .returned (.tuple #[.agg #[.int .i64 (room : Int), .slice A' q'.length c'], .bool true]) ∧ Agree W ρ ρ' ∧ PW w0 W' gp room mbs q' A' c' ρ' ∧ Mod W W' (fun k => ∃ i, ρ k = some (1, i))
abbrev bxQ (room : Nat) (A : Option Addr) (n c : Nat) : Array Value := #[.int .i64 (room : Int), .slice A n c]
abbrev bxO (kind tw who : Int) (A0 : Option Addr) (n0 c0 : Nat) (A1 : Option Addr) (n1 c1 : Nat) (A2 : Option Addr) (n2 c2 : Nat) (text : ByteArray) (op : Bool) : Array Value := #[.int .i64 kind, .int .i64 tw, .int .i64 who, .slice A0 n0 c0, .slice A1 n1 c1, .slice A2 n2 c2, .string text, .bool op]
/-- does, under way: its three boxes. -/
structure D0 (W W' : World) (ρ : Own) (bq bo : Array Value) : Prop where
  mod : Mod W W' (fun k => ∃ i, ρ k = some (1, i))
  b0 : W'.heap[W.heap.size]? = some (.cells bq 52 (0, 0))
  b1 : W'.heap[W.heap.size + 1]? = some (.cells bo 43 (0, 0))
  b2 : W'.heap[W.heap.size + 1 + 1]? = some (.cells #[.int .i64 0, .slice none 0 0] 52 (0, 0))
section
variable {w0 W W' W2 : World} {ρ : Own} {bq bo : Array Value} {gp room : Nat} {mbs : List (Nat × Nat)} {q : List (List RM)} {A : Option Addr} {c : Nat}
theorem d0_mk (W : World) (ρ : Own) (bq bo : Array Value) : D0 W (((W.alloc (.cells bq 52)).alloc (.cells bo 43)).alloc (.cells #[.int .i64 0, .slice none 0 0] 52)) ρ bq bo := by
  have n1 := heap_alloc_new W (.cells bq 52)
  have n2 := heap_alloc_new (W.alloc (.cells bq 52)) (.cells bo 43)
  have n3 := heap_alloc_new ((W.alloc (.cells bq 52)).alloc (.cells bo 43)) (.cells #[.int .i64 0, .slice none 0 0] 52)
  rw [World.size_alloc] at n2
  rw [World.size_alloc, World.size_alloc] at n3
  exact ⟨Mod.of_below (below_alloc (below_alloc (below_alloc (Below.refl _ _) _) _) _) _, blk_alloc (blk_alloc n1 _) _, blk_alloc n2 _, n3⟩
theorem D0.lt (h : D0 W W' ρ bq bo) : W.heap.size + 1 + 1 < W'.heap.size := blk_lt h.b2
theorem D0.modm (h : D0 W W' ρ bq bo) {S : Nat → Prop} (hm : Mod W' W2 S) (hS : ∀ k, k < W'.heap.size → S k → (k < W.heap.size ∧ ∃ i, ρ k = some (1, i)) ∨ W.heap.size + 1 + 1 < k) : D0 W W2 ρ bq bo := by
  have hl := h.lt
  have hn : ∀ a, W.heap.size ≤ a → a ≤ W.heap.size + 1 + 1 → ¬ S a := fun a h1 h2 hs => by
    rcases hS a (by omega) hs with ⟨h3, _⟩ | h3 <;> omega
  refine ⟨h.mod.trans (hm.mono (fun k hk hs => ?_)), (hm.block _ (by omega) (hn _ (by omega) (by omega))).trans h.b0, (hm.block _ (by omega) (hn _ (by omega) (by omega))).trans h.b1, (hm.block _ (by omega) (hn _ (by omega) (by omega))).trans h.b2⟩
  rcases hS k hk hs with ⟨_, h3⟩ | h3
  · exact .inl h3
  · exact .inr (by omega)
theorem D0.step (h : D0 W W' ρ bq bo) (hb : Below W'.heap.size W' W2) : D0 W W2 ρ bq bo := h.modm (Mod.of_below hb (fun _ => False)) (fun _ _ h => h.elim)
theorem mod_set2 {W W' : World} {S : Nat → Prop} (h : Mod W W' S) (a i : Nat) (ha : S a ∨ W.heap.size ≤ a) (u : Value) : Mod W (W'.setCell ⟨a, i, none⟩ u) S := h.set ⟨a, i, none⟩ u ha
theorem D0.out (h : D0 W W' ρ bq bo) (u v : Value) (e : (W'.setCell ⟨W.heap.size + 1 + 1, 0, none⟩ u).setCell ⟨W.heap.size + 1 + 1, 1, none⟩ v = W2) :
    W2.heap[W.heap.size + 1 + 1]? = some (.cells #[u, v] 52 (0, 0)) ∧ Mod W' W2 (fun k => k = W.heap.size + 1 + 1) ∧ Mod W W2 (fun k => ∃ i, ρ k = some (1, i)) := by
  subst e
  exact ⟨blk_set (blk_set h.b2 0 _) 1 _, mod_set2 (S := fun k => k = W.heap.size + 1 + 1) (mod_set2 (S := fun k => k = W.heap.size + 1 + 1) (Mod.refl _ _) _ 0 (.inl rfl) _) _ 1 (.inl rfl) _, (h.mod.set ⟨W.heap.size + 1 + 1, 0, none⟩ _ (.inr (by show W.heap.size ≤ W.heap.size + 1 + 1; omega))).set ⟨W.heap.size + 1 + 1, 1, none⟩ _ (.inr (by show W.heap.size ≤ W.heap.size + 1 + 1; omega))⟩
theorem qv_mod {W W' : World} {ok : Nat → Prop} {S : Nat → Prop} {A : Option Addr} {c : Nat} {q : List (List RM)} (h : QV W ok A c q) (hm : Mod W W' S) (hS : ∀ k, ok k → k < W.heap.size → ¬ S k) : QV W' ok A c q := Kd.V_step h (fun k hk hlt => hm.block k hlt (hS k hk hlt))
theorem same_rd {W : World} {A0 A1 : Option Addr} {c0 c1 : Nat} {l0 l1 : List Int} (h0 : Rd W A0 c0 l0) (h1 : Rd W A1 c1 l1) (hl : l0.length ≤ 17592186044415) {b : Bool} (hb : decide (l0 = l1) = b) :
    Calls Try.prog 16 #[.slice A0 l0.length c0, .slice A1 l1.length c1] W fun e w' => e = .returned (.bool b) ∧ Below W.heap.size W w' := by
  obtain ⟨k, hk⟩ := (Sempt.same_ev l0 l1 (by omega)).rounds
  rw [hb] at hk
  exact (Pbase.cloisterref01_Same.calls k A0 c0 l0 A1 c1 l1 b W h0.2 h0.1 h1.2 h1.1 hk).mono fun e w' ⟨he, q, hq⟩ => ⟨he, hq ▸ (by exact ⟨rfl, rfl, rfl, Nat.le_refl _, fun _ _ => rfl⟩)⟩
set_option maxHeartbeats 8000000 in
set_option maxRecDepth 100000 in
theorem does_no (h : PW w0 W gp room mbs q A c ρ) (kind tw who : Int) (A0 : Option Addr) (n0 c0 : Nat) (A1 : Option Addr) (n1 c1 : Nat) (A2 : Option Addr) (n2 c2 : Nat) (text : ByteArray) (op : Bool) (h1 : kind ≠ 1) (h2 : kind ≠ 2) :
    Calls Try.prog 18 #[.pointer (some ⟨gp, 0, none⟩), .agg #[.int .i64 (room : Int), .slice A q.length c], .agg #[.int .i64 kind, .int .i64 tw, .int .i64 who, .slice A0 n0 c0, .slice A1 n1 c1, .slice A2 n2 c2, .string text, .bool op]] W (DoesPost w0 W gp room mbs q ρ) := by
  have H0 := Aside0.mk (d0_mk W ρ (bxQ room A q.length c) (bxO kind tw who A0 n0 c0 A1 n1 c1 A2 n2 c2 text op))
  have HP := Aside0.mk h
  have d1 : (kind == 1) = false := beq_false_of_ne h1
  have d2 : (kind == 2) = false := beq_false_of_ne h2
  have d3 : (kind = 1) = False := eq_false h1
  have d4 : (kind = 2) = False := eq_false h2
  clear h h1 h2
  go_enter Try.func18, Try.ntmps18
  go_upto_region 1 with (fail)
  generalize hW1 : World.alloc (World.alloc (World.alloc W _) _) _ = W1
  have h1 : D0 W W1 ρ (bxQ room A q.length c) (bxO kind tw who A0 n0 c0 A1 n1 c1 A2 n2 c2 text op) := hW1 ▸ H0.out
  have HB1 := Aside0.mk (show Below W.heap.size W W1 from hW1 ▸ below_alloc (below_alloc (below_alloc (Below.refl _ _) _) _) _)
  have p0 : W1.cell? ⟨W.heap.size, 0, none⟩ = some (.int .i64 (room : Int)) := blk_cell h1.b0 0
  have p1 : W1.cell? ⟨W.heap.size, 1, none⟩ = some (.slice A q.length c) := blk_cell h1.b0 1
  have o0 : W1.cell? ⟨W.heap.size + 1, 0, none⟩ = some (.int .i64 kind) := blk_cell h1.b1 0
  have r0 : W1.cell? ⟨W.heap.size + 1 + 1, 0, none⟩ = some (.int .i64 0) := blk_cell h1.b2 0
  have r1 : W1.cell? ⟨W.heap.size + 1 + 1, 1, none⟩ = some (.slice none 0 0) := blk_cell h1.b2 1
  have s0 : W1.frozen? ⟨W.heap.size + 1 + 1, 0, none⟩ = false := blk_frozen h1.b2 0
  have s1 : W1.frozen? ⟨W.heap.size + 1 + 1, 1, none⟩ = false := blk_frozen h1.b2 1
  have H1 := Aside0.mk h1
  clear hW1 h1 H0
  go_wp2
  generalize hW2 : World.setCell _ _ _ = W2
  obtain ⟨o1, hm1, hm2⟩ := H1.out.out _ _ hW2
  have e0 : W2.cell? ⟨W.heap.size + 1 + 1, 0, none⟩ = some (.int .i64 (room : Int)) := blk_cell o1 0
  have e1 : W2.cell? ⟨W.heap.size + 1 + 1, 1, none⟩ = some (.slice A q.length c) := blk_cell o1 1
  have hag : Agree W ρ (upd ρ W.heap.size (0, 0)) := fun k hk => upd_lt hk
  have hB : Below W.heap.size W W2 := by
    rw [← hW2]
    exact (HB1.out.setCell (p := ⟨W.heap.size + 1 + 1, 0, none⟩) (by show W.heap.size ≤ W.heap.size + 1 + 1; omega) _).setCell (p := ⟨W.heap.size + 1 + 1, 1, none⟩) (by show W.heap.size ≤ W.heap.size + 1 + 1; omega) _
  exact bodyPost_ret (v := .tuple #[.agg #[.int .i64 (room : Int), .slice A q.length c], .bool true]) (by simp [results, Try.results18, go_sem, e0, e1]) rfl ⟨A, c, upd ρ W.heap.size (0, 0), rfl, hag, ⟨below_step HP.out.below hB, HP.out.p.below hB hag, Kd.V_mono (Kd.V_below (Kd.V_bound HP.out.v) hB) (fun k hk => (upd_lt hk.2).trans hk.1), fun k i e => by
    rcases Nat.lt_or_ge k W.heap.size with h6 | h6
    · exact HP.out.bs k i ((hag k h6).symm.trans e)
    · exact Nat.le_trans HP.out.below.size h6⟩, hm2⟩
/-- Behind Send: what both sides have. -/
structure DS (w0 W W' : World) (ρ ρ2 : Own) (bq bo : Array Value) (gp room : Nat) (mbs : List (Nat × Nat)) (q' : List (List RM)) (Au : Option Addr) (cu : Nat) (rl : List Int) (A9 : Option Addr) (c9 n2 n10 : Nat) : Prop where
  d : D0 W W' ρ bq bo
  p : PAt W' w0.heap.size (upd ρ2 n2 (0, 0)) 1 gp room mbs (qL q')
  v : QV W' (fun k => (ρ k = some (0, 0) ∧ k < W.heap.size) ∨ n2 ≤ k) A9 c9 q'
  r : Kd.R (Kd.int .i64) 3 W' (W.heap.size + 1 + 1 + 1) (fun k => ρ2 k = some (0, 0) ∧ k < n2) (.slice Au rl.length cu) rl
  b : W'.heap[n10]? = some (.cells (bxQ room A9 q'.length c9) 52 (0, 0))
  le : n2 ≤ n10
  ag : ∀ k, k < W.heap.size + 1 + 1 + 1 → ρ2 k = upd ρ W.heap.size (0, 0) k
  lo : W.heap.size + 1 + 1 + 1 ≤ n2
  sz : n2 ≤ W'.heap.size
section
variable {ρ2 : Own} {q' : List (List RM)} {Au A9 : Option Addr} {cu c9 n2 n10 : Nat} {rl : List Int}
theorem DS.step (h : DS w0 W W' ρ ρ2 bq bo gp room mbs q' Au cu rl A9 c9 n2 n10) (hb : Below W'.heap.size W' W2) : DS w0 W W2 ρ ρ2 bq bo gp room mbs q' Au cu rl A9 c9 n2 n10 :=
  ⟨h.d.step hb, h.p.below hb (Agree.refl _ _), Kd.V_below h.v hb, Kd.R_below h.r hb, blk_below h.b hb, h.le, h.ag, h.lo, Nat.le_trans h.sz hb.size⟩
/-- A store into the told row. -/
theorem DS.turn (h : DS w0 W W' ρ ρ2 bq bo gp room mbs q' Au cu rl A9 c9 n2 n10) (hm : Mod W' W2 (fun k => (Value.slice Au rl.length cu).ownBlock = some k)) {l : List Int} (hl : l.length = rl.length) (hr : Kd.R (Kd.int .i64) 3 W2 (W.heap.size + 1 + 1 + 1) (fun k => ρ2 k = some (0, 0) ∧ k < n2) (.slice Au rl.length cu) l) : DS w0 W W2 ρ ρ2 bq bo gp room mbs q' Au cu l A9 c9 n2 n10 := by
  have hb := Kd.R_base h.r
  have ho : ∀ k, (Value.slice Au rl.length cu).ownBlock = some k → ρ2 k = some (0, 0) ∧ k < n2 := fun k hk => h.r.1 k hk
  have hle := h.le
  refine ⟨h.d.modm hm (fun k _ hk => .inr (by have := hb k hk; omega)), h.p.mod hm (fun k _ hk => ?_) (Agree.refl _ _), qv_mod h.v hm (fun k hk _ hs => ?_), by rw [hl]; exact hr, (hm.block _ (blk_lt h.b) (fun hs => by have := (ho _ hs).2; omega)).trans h.b, h.le, h.ag, h.lo, Nat.le_trans h.sz hm.size⟩
  · rw [(upd_lt (ho k hk).2).trans (ho k hk).1]; exact ⟨by simp, fun i e => by injection e with e; injection e with e; omega⟩
  · have h1 := hb k hs
    have h2 := (ho k hs).2
    rcases hk with hk | hk <;> omega
theorem DS.done (h : DS w0 W W' ρ ρ2 bq bo gp room mbs q' Au cu rl A9 c9 n2 n10) (h0 : PW w0 W gp room mbs q A c ρ) {W3 : World} (e : (W'.setCell ⟨W.heap.size + 1 + 1, 0, none⟩ (.int .i64 (room : Int))).setCell ⟨W.heap.size + 1 + 1, 1, none⟩ (.slice A9 q'.length c9) = W3) :
    W3.heap[W.heap.size + 1 + 1]? = some (.cells (bxQ room A9 q'.length c9) 52 (0, 0)) ∧ DoesPost w0 W gp room mbs q' ρ (.returned (.tuple #[.agg #[.int .i64 (room : Int), .slice A9 q'.length c9], .bool true])) W3 := by
  obtain ⟨o1, hm1, hm2⟩ := h.d.out _ _ e
  have hn2 := h.lo
  have hsz := h.sz
  have hag : ∀ k, k < W.heap.size + 1 + 1 + 1 → upd ρ2 n2 (0, 0) k = upd ρ W.heap.size (0, 0) k := fun k hk => (upd_lt (by omega)).trans (h.ag k hk)
  refine ⟨o1, A9, c9, upd ρ2 n2 (0, 0), rfl, fun k hk => (hag k (by omega)).trans (upd_lt hk), ⟨below_mod h0.below hm2 (fun k ⟨i, hk⟩ => h0.bs k i hk) h0.below.size, ?_, ?_, fun k i e => ?_⟩, hm2⟩
  · refine h.p.move (fun k hk hlt => hm1.block k hlt (fun e => ?_)) (fun _ _ => rfl)
    · rw [e] at hk
      rw [hag _ (by omega), upd_ge (by omega)] at hk
      rcases hk with hk | ⟨i, hk⟩
      · cases hk
      · injection hk with hk; injection hk with hk; omega
  · refine Kd.V_mono (qv_mod h.v hm1 (fun k hk _ e => ?_)) (fun k hk => ?_)
    · rcases hk with hk | hk <;> omega
    · rcases hk with hk | hk
      · exact (hag k (by omega)).trans ((upd_lt hk.2).trans hk.1)
      · exact upd_ge hk
  · rcases Nat.lt_or_ge k (W.heap.size + 1 + 1 + 1) with h6 | h6
    · rw [hag k h6] at e
      rcases Nat.lt_or_ge k W.heap.size with h7 | h7
      · rw [upd_lt h7] at e; exact h0.bs k i e
      · have := h0.below.size; omega
    · have := h0.below.size; omega
end
theorem DoesPost.drew {q' : List (List RM)} {e : Ending} (h : DoesPost w0 W gp room mbs q' ρ e W') : DoesPost w0 W gp room mbs q' ρ e W'.drew := by
  obtain ⟨A', c', ρ', he, ha, hp, hm⟩ := h
  exact ⟨A', c', ρ', he, ha, ⟨below_drew hp.below, hp.p.below (below_drew (Below.refl _ _)) (Agree.refl _ _), Kd.V_drew hp.v, hp.bs⟩, hm.drew⟩
/-- Send on the reference's side. -/
theorem rsend_calls {P : Nat → Prop} {who : Int} {A0 A1 A2 : Option Addr} {c0 c1 c2 : Nat} {S I own : List Int} (hv : QV W P A c q) (h0 : Rd W A0 c0 S) (h1 : Rd W A1 c1 I) (h2 : Rd W A2 c2 own) (hq : q.length ≤ 16) (hroom : room ≤ 64) (hS : S.length ≤ 17592186044415) (ho : own.length ≤ 17592186044415) (tw : Int) (text : ByteArray) (op : Bool) {rl : List Int} {re : Int} {q' : List (List RM)} (hr : rsendL q room who S I own tw text op = (rl, re, q')) :
    Calls Try.prog 30 #[.agg #[.int .i64 (room : Int), .slice A q.length c], .agg #[.int .i64 who, .slice A0 S.length c0, .slice A1 I.length c1, .slice A2 own.length c2], .int .i64 tw, .string text, .bool op] W fun e w' => ∃ A9 c9 Av cv, e = .returned (.tuple #[.agg #[.int .i64 (room : Int), .slice A9 q'.length c9], .slice Av rl.length cv, .int .i64 re]) ∧ QV w' (fun k => P k ∨ W.heap.size ≤ k) A9 c9 q' ∧ Rd w' Av cv rl ∧ Below W.heap.size W w' := by
  obtain ⟨k, hk⟩ := (rsend_ev q room who S I own tw text op hq hroom ho hS).rounds
  rw [hr] at hk
  refine (Ppt.cloisterref16_Send.calls k (room : Int) (fun k => P k) A c q who A0 c0 S A1 c1 I A2 c2 own tw text op (room : Int) q' rl re W hv h0.2 h0.1 h1.2 h1.1 h2.2 h2.1 hk).mono ?_
  rintro e w' ⟨v1, v2, rfl, hv1, hr2, hb⟩
  obtain ⟨A9, c9, rfl⟩ := Kd.V_slice hv1
  obtain ⟨Av, cv, rfl⟩ := Kd.R_slice hr2
  obtain ⟨_, h3, h4⟩ := Kd.R_reads' hr2
  exact ⟨A9, c9, Av, cv, rfl, Kd.V_mono hv1 (fun k hk => hk.1), ⟨h3, h4⟩, hb⟩
set_option maxHeartbeats 8000000 in
set_option maxRecDepth 100000 in
theorem does_send (h : PW w0 W gp room mbs q A c ρ) (hq : q.length ≤ 16) (hroom : room ≤ 64) {tw who : Int} {A0 A1 A2 : Option Addr} {c0 c1 c2 : Nat} {S I own : List Int} (h0 : Rd w0 A0 c0 S) (h1 : Rd w0 A1 c1 I) (h2 : Rd w0 A2 c2 own) (hS : S.length ≤ 17592186044415) (ho : own.length ≤ 17592186044415) (text : ByteArray) (op : Bool) {rl : List Int} {re : Int} {q' : List (List RM)} (hr : rsendL q room who S I own tw text op = (rl, re, q')) (hrl : rl.length ≤ 17592186044415) :
    Calls Try.prog 18 #[.pointer (some ⟨gp, 0, none⟩), .agg #[.int .i64 (room : Int), .slice A q.length c], .agg #[.int .i64 1, .int .i64 tw, .int .i64 who, .slice A0 S.length c0, .slice A1 I.length c1, .slice A2 own.length c2, .string text, .bool op]] W (DoesPost w0 W gp room mbs q' ρ) := by
  have H0 := Aside0.mk (d0_mk W ρ (bxQ room A q.length c) (bxO 1 tw who A0 S.length c0 A1 I.length c1 A2 own.length c2 text op))
  have HP := Aside0.mk h
  have HX := Aside0.mk (show ∀ W', Below w0.heap.size w0 W' → Rd W' A0 c0 S ∧ Rd W' A1 c1 I ∧ Rd W' A2 c2 own from fun W' hb => ⟨h0.step hb, h1.step hb, h2.step hb⟩)
  have HSend := Aside0.mk (show ∀ W1, Below W.heap.size W W1 → Calls Try.prog 9 #[.pointer (some ⟨gp, 0, none⟩), .agg #[.int .i64 who, .slice A0 S.length c0, .slice A1 I.length c1, .slice A2 own.length c2], .int .i64 tw, .string text, .bool op] W1 fun e W2 => ∃ Au cu ρ2, e = .returned (.tuple #[.slice Au rl.length cu, .int .i64 re]) ∧ Agree W1 (upd ρ W.heap.size (0, 0)) ρ2 ∧ Kd.R (Kd.int .i64) 3 W2 W1.heap.size (fun k => ρ2 k = some (0, 0)) (.slice Au rl.length cu) rl ∧ PAt W2 w0.heap.size ρ2 1 gp room mbs (qL q') ∧ Mod W1 W2 (fun k => ∃ i, upd ρ W.heap.size (0, 0) k = some (1, i)) from fun W1 hb => by
    obtain ⟨g0, g1, g2⟩ := HX.out W1 (below_step HP.out.below hb)
    have h5 := send_calls (who := who) (HP.out.p.below hb (ρ' := upd ρ W.heap.size (0, 0)) (fun k hk => upd_lt hk)) g0 g1 g2 ho tw text op (Nat.le_trans HP.out.below.size hb.size)
    rw [rsend_same, hr] at h5
    refine h5.mono ?_
    rintro e W2 ⟨Au, cu, ρ2, ha, he, hR, hp, hm⟩
    exact ⟨Au, cu, ρ2, he, ha, hR, hp, hm⟩)
  have HRS := Aside0.mk (fun (W2 : World) (hb : Below w0.heap.size w0 W2) (hv : QV W2 (fun k => ρ k = some (0, 0) ∧ k < W.heap.size) A c q) => rsend_calls hv (HX.out W2 hb).1 (HX.out W2 hb).2.1 (HX.out W2 hb).2.2 hq hroom hS ho tw text op hr)
  have HLr := Aside0.mk hrl
  clear h h0 h1 h2 hS ho hr hrl hq hroom
  go_enter Try.func18, Try.ntmps18
  go_upto_region 1 with (fail)
  generalize hW1 : World.alloc (World.alloc (World.alloc W _) _) _ = W1
  have h1 : D0 W W1 ρ (bxQ room A q.length c) (bxO 1 tw who A0 S.length c0 A1 I.length c1 A2 own.length c2 text op) := hW1 ▸ H0.out
  have HB1 := Aside0.mk (show Below W.heap.size W W1 from hW1 ▸ below_alloc (below_alloc (below_alloc (Below.refl _ _) _) _) _)
  have HZ1 := Aside0.mk (show W1.heap.size = W.heap.size + 1 + 1 + 1 from by rw [← hW1]; simp)
  have o0 : W1.cell? ⟨W.heap.size + 1, 0, none⟩ = some (.int .i64 1) := blk_cell h1.b1 0
  have o1 : W1.cell? ⟨W.heap.size + 1, 1, none⟩ = some (.int .i64 tw) := blk_cell h1.b1 1
  have o2 : W1.cell? ⟨W.heap.size + 1, 2, none⟩ = some (.int .i64 who) := blk_cell h1.b1 2
  have o3 : W1.cell? ⟨W.heap.size + 1, 3, none⟩ = some (.slice A0 S.length c0) := blk_cell h1.b1 3
  have o4 : W1.cell? ⟨W.heap.size + 1, 4, none⟩ = some (.slice A1 I.length c1) := blk_cell h1.b1 4
  have o5 : W1.cell? ⟨W.heap.size + 1, 5, none⟩ = some (.slice A2 own.length c2) := blk_cell h1.b1 5
  have o6 : W1.cell? ⟨W.heap.size + 1, 6, none⟩ = some (.string text) := blk_cell h1.b1 6
  have o7 : W1.cell? ⟨W.heap.size + 1, 7, none⟩ = some (.bool op) := blk_cell h1.b1 7
  have H1 := Aside0.mk h1
  clear hW1 h1 H0
  go_upto_region 4 with (go_at_call 9; (with_reducible refine (HSend.out _ HB1.out).mono ?_); rintro e w2 ⟨Au, cu, ρ2, rfl, ha2, hR2, hp2, hm2⟩; have HA2 := Aside0.mk ha2; have HR2 := Aside0.mk hR2; have HP2 := Aside0.mk hp2; have HM2 := Aside0.mk hm2; clear ha2 hR2 hp2 hm2 o0 o1 o2 o3 o4 o5 o6 o7)
  have hd2 : D0 W w2 ρ (bxQ room A q.length c) (bxO 1 tw who A0 S.length c0 A1 I.length c1 A2 own.length c2 text op) := H1.out.modm HM2.out (fun k hk hs => by
    obtain ⟨i, hs⟩ := hs
    rcases Nat.lt_or_ge k W.heap.size with h6 | h6
    · rw [upd_lt h6] at hs; exact .inl ⟨h6, i, hs⟩
    · rw [upd_ge h6] at hs; injection hs with hs; injection hs with hs; omega)
  have hb2 : Below w0.heap.size w0 w2 := below_mod HP.out.below hd2.mod (fun k ⟨i, hk⟩ => HP.out.bs k i hk) HP.out.below.size
  have hv2 : QV w2 (fun k => ρ k = some (0, 0) ∧ k < W.heap.size) A c q := qv_mod (Kd.V_bound HP.out.v) hd2.mod (fun k hk _ ⟨i, e⟩ => by rw [hk.1] at e; injection e with e; injection e with e; omega)
  have p0 : w2.cell? ⟨W.heap.size, 0, none⟩ = some (.int .i64 (room : Int)) := blk_cell hd2.b0 0
  have p1 : w2.cell? ⟨W.heap.size, 1, none⟩ = some (.slice A q.length c) := blk_cell hd2.b0 1
  have o1 : w2.cell? ⟨W.heap.size + 1, 1, none⟩ = some (.int .i64 tw) := blk_cell hd2.b1 1
  have o2 : w2.cell? ⟨W.heap.size + 1, 2, none⟩ = some (.int .i64 who) := blk_cell hd2.b1 2
  have o3 : w2.cell? ⟨W.heap.size + 1, 3, none⟩ = some (.slice A0 S.length c0) := blk_cell hd2.b1 3
  have o4 : w2.cell? ⟨W.heap.size + 1, 4, none⟩ = some (.slice A1 I.length c1) := blk_cell hd2.b1 4
  have o5 : w2.cell? ⟨W.heap.size + 1, 5, none⟩ = some (.slice A2 own.length c2) := blk_cell hd2.b1 5
  have o6 : w2.cell? ⟨W.heap.size + 1, 6, none⟩ = some (.string text) := blk_cell hd2.b1 6
  have o7 : w2.cell? ⟨W.heap.size + 1, 7, none⟩ = some (.bool op) := blk_cell hd2.b1 7
  have HD2 := Aside0.mk hd2
  have HB2 := Aside0.mk hb2
  have HV2 := Aside0.mk hv2
  clear hd2 hb2 hv2
  go_upto_region 5 with (go_at_call 30; (with_reducible refine (HRS.out _ HB2.out HV2.out).mono ?_); rintro e w3 ⟨A9, c9, Av, cv, rfl, hv3, hr3, hb3⟩; have HV3 := Aside0.mk hv3; have HR3 := Aside0.mk hr3; have HB3 := Aside0.mk hb3; clear hv3 hr3 hb3 p0 p1 o1 o2 o3 o4 o5 o6 o7)
  have hn10 := heap_alloc_new w3 (.cells #[.int .i64 (room : Int), .slice A9 q'.length c9] 52)
  have hb4 : Below w2.heap.size w2 (w3.alloc (.cells #[.int .i64 (room : Int), .slice A9 q'.length c9] 52)) := below_alloc HB3.out _
  have hb34 : Below w3.heap.size w3 (w3.alloc (.cells #[.int .i64 (room : Int), .slice A9 q'.length c9] 52)) := below_alloc (Below.refl _ _) _
  have hz3 := HB3.out.size
  generalize hW4 : w3.alloc _ = w4 at *
  have hds : DS w0 W w4 ρ ρ2 (bxQ room A q.length c) (bxO 1 tw who A0 S.length c0 A1 I.length c1 A2 own.length c2 text op) gp room mbs q' Au cu rl A9 c9 w2.heap.size w3.heap.size := by
    have hz1 := HZ1.out
    have hR := HR2.out
    rw [hz1] at hR
    have hm2 := HM2.out.size
    exact ⟨HD2.out.step hb4, HP2.out.below hb4 (fun k hk => upd_lt hk), Kd.V_below HV3.out hb34, Kd.R_mono (Kd.R_below (Kd.R_bound hR) hb4) (fun k hk => ⟨hk.1, hk.2.2.1⟩), hn10, hz3, fun k hk => HA2.out k (by omega), by omega, hb4.size⟩
  have HS4 := Aside0.mk hds
  have HRu := Aside0.mk (show Rd w4 Au cu rl from ⟨(Kd.R_reads' hds.r).2.1, (Kd.R_reads' hds.r).2.2⟩)
  have HRv := Aside0.mk (HR3.out.step hb34)
  clear hds hz3 hb34 hb4 hn10 hW4
  go_upto_region 6 with (go_at_call 16; (with_reducible refine (same_rd HRu.out HRv.out HLr.out (decide_eq_true rfl)).mono ?_); rintro e w5 ⟨rfl, hb5⟩; have HS5 := Aside0.mk (HS4.out.step hb5); clear hb5)
  clear HS4 HRu HRv
  go_wp2
  go_loopw [14] (fun t14 wr => ∃ (j : Nat) (l : List Int), j ≤ rl.length ∧ t14 = .int .i64 (j : Int) ∧ Aside0 (l.length = rl.length) ∧ Aside0 (DS w0 W wr ρ ρ2 (bxQ room A q.length c) (bxO 1 tw who A0 S.length c0 A1 I.length c1 A2 own.length c2 text op) gp room mbs q' Au cu l A9 c9 w2.heap.size w3.heap.size)) (fun i _ => rl.length - (intOf i).toNat)
  case atStart => exact ⟨0, rl, Nat.zero_le _, rfl, Aside0.mk rfl, HS5⟩
  case round =>
    clear HS5
    obtain ⟨j, l, hj, rfl, HLl, HS⟩ := hrel
    have hmx := HLr.out
    by_cases hjl : j < rl.length
    · have i1 : (j : Int) < (rl.length : Int) := by omega
      obtain ⟨g, cap, he, _, hgl, _⟩ := Kd.R_form HS.out.r (show 0 < l.length by rw [HLl.out]; omega)
      have he2 := he
      simp only [Value.slice.injEq] at he2
      obtain ⟨rfl, _, rfl⟩ := he2
      obtain ⟨x0, x1⟩ := Kd.R_celln (0 : Int) HS.out.r (j : Int) (by omega) (by rw [HLl.out]; omega)
      obtain ⟨hput, hgr⟩ := Kd.R_putg HS.out.r (j : Int) (-7)
      rw [Int.toNat_natCast] at x0 x1 hput hgr
      have hn := HS.out.turn (l := l.set j (-7)) ((Mod.refl wr _).grown hgr (fun k hk => .inl (by rw [← hk]; rfl))) (by simp) hput
      have HS2 := Aside0.mk hn
      clear hn hput hgr he
      go_wp2
      exact ⟨⟨j + 1, l.set j (-7), by omega, by go_num, Aside0.mk (by rw [List.length_set]; exact HLl.out), HS2⟩, by simp [intOf]; omega⟩
    · obtain rfl : j = rl.length := by omega
      have i1 : ¬ ((rl.length : Int) < (rl.length : Int)) := by omega
      have p0 : wr.cell? ⟨w3.heap.size, 0, none⟩ = some (.int .i64 (room : Int)) := blk_cell HS.out.b 0
      have p1 : wr.cell? ⟨w3.heap.size, 1, none⟩ = some (.slice A9 q'.length c9) := blk_cell HS.out.b 1
      have r0 : wr.cell? ⟨W.heap.size + 1 + 1, 0, none⟩ = some (.int .i64 0) := blk_cell HS.out.d.b2 0
      have r1 : wr.cell? ⟨W.heap.size + 1 + 1, 1, none⟩ = some (.slice none 0 0) := blk_cell HS.out.d.b2 1
      have s0 : wr.frozen? ⟨W.heap.size + 1 + 1, 0, none⟩ = false := blk_frozen HS.out.d.b2 0
      have s1 : wr.frozen? ⟨W.heap.size + 1 + 1, 1, none⟩ = false := blk_frozen HS.out.d.b2 1
      go_wp2
      generalize hW2 : World.setCell _ _ _ = W2
      obtain ⟨o1, hpost⟩ := HS.out.done HP.out hW2
      have e0 : W2.cell? ⟨W.heap.size + 1 + 1, 0, none⟩ = some (.int .i64 (room : Int)) := blk_cell o1 0
      have e1 : W2.cell? ⟨W.heap.size + 1 + 1, 1, none⟩ = some (.slice A9 q'.length c9) := blk_cell o1 1
      exact bodyPost_ret (v := .tuple #[.agg #[.int .i64 (room : Int), .slice A9 q'.length c9], .bool true]) (by simp [results, Try.results18, go_sem, e0, e1]) rfl hpost
theorem rtake2 {P : Nat → Prop} (hv : QV W P A c q) (hq : q.length ≤ 16) (who : Int) {x : RM} {b : Bool} {q' : List (List RM)} (hr : rtakeL q who = (x, b, q')) :
    Calls Try.prog 31 #[.agg #[.int .i64 (room : Int), .slice A q.length c], .int .i64 who] W fun e w' => ∃ A9 c9, e = .returned (.tuple #[.agg #[.int .i64 (room : Int), .slice A9 q'.length c9], .agg #[.int .i64 x.f0, .string x.f1], .bool b]) ∧ QV w' (fun k => P k ∨ W.heap.size ≤ k) A9 c9 q' ∧ Below W.heap.size W w' := by
  have := rtake_calls (room : Int) P A c q who W hv hq
  rw [hr] at this
  exact this
set_option maxHeartbeats 8000000 in
set_option maxRecDepth 100000 in
theorem does_take (h : PW w0 W gp room mbs q A c ρ) (hq : q.length ≤ 16) (tw who : Int) (A0 : Option Addr) (n0 c0 : Nat) (A1 : Option Addr) (n1 c1 : Nat) (A2 : Option Addr) (n2 c2 : Nat) (text : ByteArray) (op : Bool) {x : RM} {b : Bool} {q' : List (List RM)} (hr : rtakeL q tw = (x, b, q')) :
    Calls Try.prog 18 #[.pointer (some ⟨gp, 0, none⟩), .agg #[.int .i64 (room : Int), .slice A q.length c], .agg #[.int .i64 2, .int .i64 tw, .int .i64 who, .slice A0 n0 c0, .slice A1 n1 c1, .slice A2 n2 c2, .string text, .bool op]] W (DoesPost w0 W gp room mbs q' ρ) := by
  have H0 := Aside0.mk (d0_mk W ρ (bxQ room A q.length c) (bxO 2 tw who A0 n0 c0 A1 n1 c1 A2 n2 c2 text op))
  have HP := Aside0.mk h
  have HTk := Aside0.mk (show ∀ W1, Below W.heap.size W W1 → Calls Try.prog 11 #[.pointer (some ⟨gp, 0, none⟩), .int .i64 tw] W1 fun e W2 => ∃ ρ2, e = .returned (.tuple #[.agg #[.int .i64 x.f0, .string x.f1], .bool b]) ∧ Agree W1 (upd ρ W.heap.size (0, 0)) ρ2 ∧ PAt W2 w0.heap.size ρ2 1 gp room mbs (qL q') ∧ Mod W1 W2 (fun k => ∃ i, upd ρ W.heap.size (0, 0) k = some (1, i)) from fun W1 hb => by
    have h5 := (HP.out.p.below hb (ρ' := upd ρ W.heap.size (0, 0)) (fun k hk => upd_lt hk)).take_calls tw
    unfold TakePost at h5
    rw [rtake_same, hr] at h5
    refine h5.mono ?_
    rintro e W2 ⟨he, ρ2, ha, hp, hm⟩
    exact ⟨ρ2, he, ha, hp, hm⟩)
  have HRT := Aside0.mk (fun (W2 : World) (hv : QV W2 (fun k => ρ k = some (0, 0) ∧ k < W.heap.size) A c q) => rtake2 (room := room) hv hq tw hr)
  have hEq : ∀ w, (Op.equalIn 10000 37 (.agg #[.int .i64 x.f0, .string x.f1]) (.agg #[.int .i64 x.f0, .string x.f1])).run Try.prog w = .ok true w := fun w => (eqM (x.f0, x.f1) (x.f0, x.f1) w).trans (by simp)
  clear h hr hq
  go_enter Try.func18, Try.ntmps18
  go_upto_region 1 with (fail)
  generalize hW1 : World.alloc (World.alloc (World.alloc W _) _) _ = W1
  have h1 : D0 W W1 ρ (bxQ room A q.length c) (bxO 2 tw who A0 n0 c0 A1 n1 c1 A2 n2 c2 text op) := hW1 ▸ H0.out
  have HB1 := Aside0.mk (show Below W.heap.size W W1 from hW1 ▸ below_alloc (below_alloc (below_alloc (Below.refl _ _) _) _) _)
  have HZ1 := Aside0.mk (show W1.heap.size = W.heap.size + 1 + 1 + 1 from by rw [← hW1]; simp)
  have o0 : W1.cell? ⟨W.heap.size + 1, 0, none⟩ = some (.int .i64 2) := blk_cell h1.b1 0
  have o1 : W1.cell? ⟨W.heap.size + 1, 1, none⟩ = some (.int .i64 tw) := blk_cell h1.b1 1
  have H1 := Aside0.mk h1
  clear hW1 h1 H0
  go_upto_region 13 with (go_at_call 11; (with_reducible refine (HTk.out _ HB1.out).mono ?_); rintro e w2 ⟨ρ2, rfl, ha2, hp2, hm2⟩; have HA2 := Aside0.mk ha2; have HP2 := Aside0.mk hp2; have HM2 := Aside0.mk hm2; clear ha2 hp2 hm2 o0 o1)
  have hd2 : D0 W w2 ρ (bxQ room A q.length c) (bxO 2 tw who A0 n0 c0 A1 n1 c1 A2 n2 c2 text op) := H1.out.modm HM2.out (fun k hk hs => by
    obtain ⟨i, hs⟩ := hs
    rcases Nat.lt_or_ge k W.heap.size with h6 | h6
    · rw [upd_lt h6] at hs; exact .inl ⟨h6, i, hs⟩
    · rw [upd_ge h6] at hs; injection hs with hs; injection hs with hs; omega)
  have hv2 : QV w2 (fun k => ρ k = some (0, 0) ∧ k < W.heap.size) A c q := qv_mod (Kd.V_bound HP.out.v) hd2.mod (fun k hk _ ⟨i, e⟩ => by rw [hk.1] at e; injection e with e; injection e with e; omega)
  have hn15 := heap_alloc_new w2 (.cells #[.int .i64 x.f0, .string x.f1] 37)
  have hb3 : Below w2.heap.size w2 (w2.alloc (.cells #[.int .i64 x.f0, .string x.f1] 37)) := below_alloc (Below.refl _ _) _
  have hz3 : W1.heap.size ≤ w2.heap.size := HM2.out.size
  generalize w2.alloc _ = w3 at *
  have hd3 := hd2.step hb3
  have p0 : w3.cell? ⟨W.heap.size, 0, none⟩ = some (.int .i64 (room : Int)) := blk_cell hd3.b0 0
  have p1 : w3.cell? ⟨W.heap.size, 1, none⟩ = some (.slice A q.length c) := blk_cell hd3.b0 1
  have o1 : w3.cell? ⟨W.heap.size + 1, 1, none⟩ = some (.int .i64 tw) := blk_cell hd3.b1 1
  have HD3 := Aside0.mk hd3
  have HV3 := Aside0.mk (Kd.V_below hv2 hb3)
  have HP3 := Aside0.mk (HP2.out.below hb3 (Agree.refl _ _))
  have HB3 := Aside0.mk hb3
  have HN15 := Aside0.mk hn15
  have HZ3 := Aside0.mk hz3
  clear hd2 hv2 hd3 hb3 hn15 hz3
  go_upto_region 14 with (go_at_call 31; (with_reducible refine (HRT.out _ HV3.out).mono ?_); rintro e w4 ⟨A9, c9, rfl, hv4, hb4⟩; have HV4 := Aside0.mk hv4; have HB4 := Aside0.mk hb4; clear hv4 hb4 p0 p1 o1)
  have hn17 := heap_alloc_new w4 (.cells #[.int .i64 (room : Int), .slice A9 q'.length c9] 52)
  have hn18 := heap_alloc_new (w4.alloc (.cells #[.int .i64 (room : Int), .slice A9 q'.length c9] 52)) (.cells #[.int .i64 x.f0, .string x.f1] 37)
  rw [World.size_alloc] at hn18
  have hb45 : Below w4.heap.size w4 (w4.alloc (.cells #[.int .i64 (room : Int), .slice A9 q'.length c9] 52)) := below_alloc (Below.refl _ _) _
  have hb5 : Below w4.heap.size w4 ((w4.alloc (.cells #[.int .i64 (room : Int), .slice A9 q'.length c9] 52)).alloc (.cells #[.int .i64 x.f0, .string x.f1] 37)) := below_alloc hb45 _
  have hn17 := blk_alloc hn17 (.cells #[.int .i64 x.f0, .string x.f1] 37)
  generalize (w4.alloc _).alloc _ = w5 at *
  have hn15 := blk_below (blk_below HN15.out HB4.out) hb5
  have hds : DS w0 W w5 ρ ρ2 (bxQ room A q.length c) (bxO 2 tw who A0 n0 c0 A1 n1 c1 A2 n2 c2 text op) gp room mbs q' none 0 [] A9 c9 w3.heap.size w4.heap.size := by
    have hz1 := HZ1.out
    have hz3 := HZ3.out
    have hz4 := HB3.out.size
    have hb35 := below_then HB4.out HB4.out.size hb5
    exact ⟨HD3.out.step hb35, HP3.out.below hb35 (fun k hk => upd_lt hk), Kd.V_below HV4.out hb5, Kd.R_nil _ _ _ _ _, hn17, HB4.out.size, fun k hk => HA2.out k (by omega), by omega, hb35.size⟩
  have a0 : w5.cell? ⟨w4.heap.size, 0, none⟩ = some (.int .i64 (room : Int)) := blk_cell hn17 0
  have a1 : w5.cell? ⟨w4.heap.size, 1, none⟩ = some (.slice A9 q'.length c9) := blk_cell hn17 1
  have a2 : w5.cell? ⟨w2.heap.size, 0, none⟩ = some (.int .i64 x.f0) := blk_cell hn15 0
  have a3 : w5.cell? ⟨w2.heap.size, 1, none⟩ = some (.string x.f1) := blk_cell hn15 1
  have a4 : w5.cell? ⟨w4.heap.size + 1, 0, none⟩ = some (.int .i64 x.f0) := blk_cell hn18 0
  have a5 : w5.cell? ⟨w4.heap.size + 1, 1, none⟩ = some (.string x.f1) := blk_cell hn18 1
  have r0 : w5.cell? ⟨W.heap.size + 1 + 1, 0, none⟩ = some (.int .i64 0) := blk_cell hds.d.b2 0
  have r1 : w5.cell? ⟨W.heap.size + 1 + 1, 1, none⟩ = some (.slice none 0 0) := blk_cell hds.d.b2 1
  have s0 : w5.frozen? ⟨W.heap.size + 1 + 1, 0, none⟩ = false := blk_frozen hds.d.b2 0
  have s1 : w5.frozen? ⟨W.heap.size + 1 + 1, 1, none⟩ = false := blk_frozen hds.d.b2 1
  have HS5 := Aside0.mk hds
  clear hds hb45 hb5 hn15 hn17 hn18
  refine start_ (n := 11) (S := fun w' => w'.cell? ⟨w4.heap.size, 0, none⟩ = some (.int .i64 (room : Int)) ∧ w'.cell? ⟨w4.heap.size, 1, none⟩ = some (.slice A9 q'.length c9) ∧ w'.cell? ⟨w2.heap.size, 0, none⟩ = some (.int .i64 x.f0) ∧ w'.cell? ⟨w2.heap.size, 1, none⟩ = some (.string x.f1) ∧ w'.cell? ⟨w4.heap.size + 1, 0, none⟩ = some (.int .i64 x.f0) ∧ w'.cell? ⟨w4.heap.size + 1, 1, none⟩ = some (.string x.f1)) (ds := [9]) #[false, false, false, false, false, false, false, false, false, false, false] (by kernel_rfl) rfl rfl ⟨a0, a1, a2, a3, a4, a5⟩ (fun hHeld => ?_)
  refine take_ (i := 0) (N := some 87) (v := ?_) (a' := ?_) #[true, false, false, false, false, false, false, false, false, false, false] rfl rfl (by kernel_rfl) (fun _ _ _ h => h) (Or.inl ⟨by rfl, ?_⟩) hHeld ?_ ?_
  rotate_left
  · rintro w' ⟨s0, s1, s2, s3, s4, s5⟩
    go_simp
    with_reducible rfl
  rotate_left
  · simp only [Act.put, List.setIfInBounds_toArray, List.set_cons_zero, List.set_cons_succ, i64_w, i32_w]
    rfl
  refine take_ (i := 1) (N := some 88) (v := ?_) (a' := ?_) #[true, true, false, false, false, false, false, false, false, false, false] rfl rfl (by kernel_rfl) (fun _ _ _ h => h) (Or.inl ⟨by rfl, ?_⟩) hHeld ?_ ?_
  rotate_left
  · rintro w' ⟨s0, s1, s2, s3, s4, s5⟩
    go_simp
    with_reducible rfl
  rotate_left
  · simp only [Act.put, List.setIfInBounds_toArray, List.set_cons_zero, List.set_cons_succ, i64_w, i32_w]
    rfl
  refine take_ (i := 2) (N := some 89) (v := ?_) (a' := ?_) #[true, true, true, false, false, false, false, false, false, false, false] rfl rfl (by kernel_rfl) (fun _ _ _ h => h) (Or.inl ⟨by rfl, ?_⟩) hHeld ?_ ?_
  rotate_left
  · rintro w' ⟨s0, s1, s2, s3, s4, s5⟩
    go_simp
    with_reducible rfl
  rotate_left
  · simp only [Act.put, List.setIfInBounds_toArray, List.set_cons_zero, List.set_cons_succ, i64_w, i32_w]
    rfl
  refine pure_ (i := 3) (N := some 90) (v := ?_) (a' := ?_) #[true, true, true, true, false, false, false, false, false, false, false] rfl rfl (by kernel_rfl) (fun _ _ _ h => h) (Or.inl ⟨by rfl, ?_⟩) ?_ ?_
  rotate_left
  · intro w'
    go_simp
    with_reducible rfl
  rotate_left
  · simp only [Act.put, List.setIfInBounds_toArray, List.set_cons_zero, List.set_cons_succ, i64_w, i32_w]
    rfl
  refine pure_ (i := 4) (N := some 91) (v := ?_) (a' := ?_) #[true, true, true, true, true, false, false, false, false, false, false] rfl rfl (by kernel_rfl) (fun _ _ _ h => h) (Or.inl ⟨by rfl, ?_⟩) ?_ ?_
  rotate_left
  · intro w'
    go_simp
    with_reducible rfl
  rotate_left
  · simp only [Act.put, List.setIfInBounds_toArray, List.set_cons_zero, List.set_cons_succ, i64_w, i32_w]
    rfl
  refine pure_ (i := 5) (N := some 92) (v := ?_) (a' := ?_) #[true, true, true, true, true, true, false, false, false, false, false] rfl rfl (by kernel_rfl) (fun _ _ _ h => h) (Or.inl ⟨by rfl, ?_⟩) ?_ ?_
  rotate_left
  · intro w'
    go_simp
    with_reducible rfl
  rotate_left
  · simp only [Act.put, List.setIfInBounds_toArray, List.set_cons_zero, List.set_cons_succ, i64_w, i32_w]
    rfl
  refine pure_ (i := 6) (N := some 93) (v := ?_) (a' := ?_) #[true, true, true, true, true, true, true, false, false, false, false] rfl rfl (by kernel_rfl) (fun _ _ _ h => h) (Or.inl ⟨by rfl, ?_⟩) ?_ ?_
  rotate_left
  · intro w'
    go_simp
    with_reducible rfl
  rotate_left
  · simp only [Act.put, List.setIfInBounds_toArray, List.set_cons_zero, List.set_cons_succ, i64_w, i32_w]
    rfl
  refine pure_ (i := 7) (N := some 94) (v := ?_) (a' := ?_) #[true, true, true, true, true, true, true, true, false, false, false] rfl rfl (by kernel_rfl) (fun _ _ _ h => h) (Or.inl ⟨by rfl, ?_⟩) ?_ ?_
  rotate_left
  · intro w'
    go_simp
    with_reducible rfl
  rotate_left
  · simp only [Act.put, List.setIfInBounds_toArray, List.set_cons_zero, List.set_cons_succ, i64_w, i32_w]
    rfl
  refine pure_ (i := 8) (N := some 95) (v := ?_) (a' := ?_) #[true, true, true, true, true, true, true, true, true, false, false] rfl rfl (by kernel_rfl) (fun _ _ _ h => h) (Or.inl ⟨by rfl, ?_⟩) ?_ ?_
  rotate_left
  · intro w'
    go_simp
    with_reducible rfl
  rotate_left
  · simp only [Act.put, List.setIfInBounds_toArray, List.set_cons_zero, List.set_cons_succ, i64_w, i32_w]
    rfl
  refine last_ (i := 9) (N := none) #[true, true, true, true, true, true, true, true, true, true, false] rfl rfl (by kernel_rfl) (by decide) (fun K hK => ?_)
  refine skip_ (w1 := ?_) (by rfl) rfl ?_ ?_
  rotate_left
  · go_simp
    rfl
  refine hK.out _ _ ?_
  clear hK K
  refine pure_ (i := 10) (N := some 7) (v := ?_) (a' := ?_) #[true, true, true, true, true, true, true, true, true, true, true] rfl rfl (by kernel_rfl) (fun _ _ _ h => h) (Or.inl ⟨by rfl, ?_⟩) ?_ ?_
  rotate_left
  · intro w'
    go_simp
    with_reducible rfl
  rotate_left
  · simp only [Act.put, List.setIfInBounds_toArray, List.set_cons_zero, List.set_cons_succ, i64_w, i32_w]
    rfl
  refine done_ (by kernel_rfl) ?_

  go_wp2
  generalize hW2 : World.setCell _ _ _ = W6
  obtain ⟨o1, hpost⟩ := HS5.out.done HP.out hW2
  have e0 : W6.cell? ⟨W.heap.size + 1 + 1, 0, none⟩ = some (.int .i64 (room : Int)) := blk_cell o1 0
  have e1 : W6.cell? ⟨W.heap.size + 1 + 1, 1, none⟩ = some (.slice A9 q'.length c9) := blk_cell o1 1
  exact bodyPost_ret (v := .tuple #[.agg #[.int .i64 (room : Int), .slice A9 q'.length c9], .bool true]) (by simp [results, Try.results18, go_sem, e0, e1]) rfl hpost.drew
end
end Go.Proofs.Ytclhddldbfdfdaa.PoW
