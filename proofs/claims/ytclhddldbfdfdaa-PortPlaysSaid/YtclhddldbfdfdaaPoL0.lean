/- What a law on mailboxes carries: mailboxes, rows, boxes, in one fact. -/
import Derived.Test.YtclhddldbfdfdaaPoMP
namespace Go.Proofs.Ytclhddldbfdfdaa.PoW
open Go.RowKit Go.Proofs.YtclhddldbfdfdaaW.PrintWords Go.Proofs.YtclhddldbfdfdaaW.PrintMore Go.Proofs.YtclhddldbfdfdaaW.PrintLast Go.Proofs.Ytclhddldbfdfdaa.LabF Go.Proofs.Ytclhddldbfdfdaa.SetF
set_option linter.unusedVariables false
set_option linter.unusedSimpArgs false
def SubjPost (w : World) (who : Int) (e : Ending) (w' : World) : Prop := ∃ a b, e = .returned (.agg #[.int .i64 who, .slice a 1 1, .slice none 0 0, .slice b 1 1]) ∧ Rd w' a 1 [2 * who + 1] ∧ Rd w' b 1 [2 * who + 1] ∧ Below w.heap.size w w'
set_option maxHeartbeats 4000000 in
set_option maxRecDepth 100000 in
theorem subject_calls (who : Int) (h0 : 0 ≤ who) (h1 : who ≤ 1000000) (w : World) : Calls Try.prog 10 #[.int .i64 who] w (SubjPost w who) := by
  have e1 : wrap64 (2 * who) = 2 * who := by unfold wrap64; omega
  have e2 : wrap64 (2 * who + 1) = 2 * who + 1 := by unfold wrap64; omega
  have HB := Aside0.mk (show ∀ W1, (((w.alloc (.cells #[.int .i64 who, .slice (some ⟨w.heap.size + 1, 0, none⟩) 1 1, .slice none 0 0, .slice (some ⟨w.heap.size + 1 + 1, 0, none⟩) 1 1] 34)).alloc (.cells #[.int .i64 (2 * who + 1)] 3)).alloc (.cells #[.int .i64 (2 * who + 1)] 3)) = W1 → Below w.heap.size w W1 ∧ W1.heap[w.heap.size]? = some (.cells #[.int .i64 who, .slice (some ⟨w.heap.size + 1, 0, none⟩) 1 1, .slice none 0 0, .slice (some ⟨w.heap.size + 1 + 1, 0, none⟩) 1 1] 34 (0, 0)) ∧ W1.heap[w.heap.size + 1]? = some (.cells #[.int .i64 (2 * who + 1)] 3 (0, 0)) ∧ W1.heap[w.heap.size + 1 + 1]? = some (.cells #[.int .i64 (2 * who + 1)] 3 (0, 0)) from fun W1 e => by
    subst e
    have hb1 := below_alloc (Below.refl w.heap.size w) (.cells #[.int .i64 who, .slice (some ⟨w.heap.size + 1, 0, none⟩) 1 1, .slice none 0 0, .slice (some ⟨w.heap.size + 1 + 1, 0, none⟩) 1 1] 34)
    have n1 := heap_alloc_new w (.cells #[.int .i64 who, .slice (some ⟨w.heap.size + 1, 0, none⟩) 1 1, .slice none 0 0, .slice (some ⟨w.heap.size + 1 + 1, 0, none⟩) 1 1] 34)
    have n2 := heap_alloc_new (w.alloc (.cells #[.int .i64 who, .slice (some ⟨w.heap.size + 1, 0, none⟩) 1 1, .slice none 0 0, .slice (some ⟨w.heap.size + 1 + 1, 0, none⟩) 1 1] 34)) (.cells #[.int .i64 (2 * who + 1)] 3)
    have n3 := heap_alloc_new ((w.alloc (.cells #[.int .i64 who, .slice (some ⟨w.heap.size + 1, 0, none⟩) 1 1, .slice none 0 0, .slice (some ⟨w.heap.size + 1 + 1, 0, none⟩) 1 1] 34)).alloc (.cells #[.int .i64 (2 * who + 1)] 3)) (.cells #[.int .i64 (2 * who + 1)] 3)
    rw [World.size_alloc] at n2
    rw [World.size_alloc, World.size_alloc] at n3
    exact ⟨below_alloc (below_alloc hb1 _) _, blk_alloc (blk_alloc n1 _) _, blk_alloc n2 _, n3⟩)
  go_enter Try.func10, Try.ntmps10
  go_wp2
  generalize hW : World.alloc (World.alloc (World.alloc w _) _) _ = W1
  obtain ⟨hb, h1, h2, h3⟩ := HB.out W1 hW
  clear HB hW
  have c0 : W1.cell? ⟨w.heap.size, 0, none⟩ = _ := blk_cell h1 0
  have c1 : W1.cell? ⟨w.heap.size, 1, none⟩ = _ := blk_cell h1 1
  have c2 : W1.cell? ⟨w.heap.size, 2, none⟩ = _ := blk_cell h1 2
  have c3 : W1.cell? ⟨w.heap.size, 3, none⟩ = _ := blk_cell h1 3
  exact bodyPost_ret (v := .agg #[.int .i64 who, .slice (some ⟨w.heap.size + 1, 0, none⟩) 1 1, .slice none 0 0, .slice (some ⟨w.heap.size + 1 + 1, 0, none⟩) 1 1]) (by simp [results, Try.results10, go_sem, c0, c1, c2, c3]) rfl ⟨_, _, rfl, ⟨Nat.le_refl _, Hand.lit_ints _ _ [2 * who + 1] (by simp) h2⟩, ⟨Nat.le_refl _, Hand.lit_ints _ _ [2 * who + 1] (by simp) h3⟩, hb⟩
/-- A law's state. -/
structure PS (w0 : World) (gp room : Nat) (L : List (List Msg)) (rs : List (Option Addr × Nat × List Int)) (bs : List (Nat × Array Value × TypeId)) (W : World) : Prop where
  below : Below w0.heap.size w0 W
  ex : ∃ ρ mbs, PAt W w0.heap.size ρ 1 gp room mbs L ∧ (∀ r ∈ rs, Kd.R (Kd.int .i64) 3 W w0.heap.size (fun k => ρ k = some (0, 0)) (.slice r.1 r.2.2.length r.2.1) r.2.2) ∧ (∀ b ∈ bs, W.heap[b.1]? = some (.cells b.2.1 b.2.2 (0, 0)) ∧ ρ b.1 = some (0, 0)) ∧ ∀ k i, ρ k = some (1, i) → w0.heap.size ≤ k
section
variable {w0 W W' : World} {gp room : Nat} {L : List (List Msg)} {rs : List (Option Addr × Nat × List Int)} {bs : List (Nat × Array Value × TypeId)}
theorem PS.step (h : PS w0 gp room L rs bs W) (hb : Below W.heap.size W W') : PS w0 gp room L rs bs W' := by
  obtain ⟨ρ, mbs, hp, hr, hx, hbs⟩ := h.ex
  refine ⟨below_step h.below hb, upd ρ W.heap.size (0, 0), mbs, hp.below hb (fun k hk => upd_lt hk), fun r hm => ?_, fun b hm => ?_, fun k i e => ?_⟩
  · exact Kd.R_mono (Kd.R_below (Kd.R_bound (hr r hm)) hb) (fun k hk => (upd_lt hk.2.2.1).trans hk.1)
  · obtain ⟨h1, h2⟩ := hx b hm
    exact ⟨blk_below h1 hb, (upd_lt (blk_lt h1)).trans h2⟩
  · rcases Nat.lt_or_ge k W.heap.size with h1 | h1
    · exact hbs k i ((upd_lt h1).symm.trans e)
    · exact Nat.le_trans h.below.size h1
theorem PS.drew (h : PS w0 gp room L rs bs W) : PS w0 gp room L rs bs W.drew := h.step (below_drew (Below.refl _ _))
theorem PS.boxed (h : PS w0 gp room L rs bs W) (cs : Array Value) (t : TypeId) : PS w0 gp room L rs ((W.heap.size, cs, t) :: bs) (W.alloc (.cells cs t)) := by
  have hb := below_alloc (Below.refl W.heap.size W) (.cells cs t)
  obtain ⟨ρ, mbs, hp, hr, hx, hbs⟩ := h.ex
  refine ⟨below_step h.below hb, upd ρ W.heap.size (0, 0), mbs, hp.below hb (fun k hk => upd_lt hk), fun r hm => ?_, fun b hm => ?_, fun k i e => ?_⟩
  · exact Kd.R_mono (Kd.R_below (Kd.R_bound (hr r hm)) hb) (fun k hk => (upd_lt hk.2.2.1).trans hk.1)
  · rcases List.mem_cons.1 hm with rfl | hm
    · exact ⟨heap_alloc_new W _, upd_ge (Nat.le_refl _)⟩
    · obtain ⟨h1, h2⟩ := hx b hm
      exact ⟨blk_below h1 hb, (upd_lt (blk_lt h1)).trans h2⟩
  · rcases Nat.lt_or_ge k W.heap.size with h1 | h1
    · exact hbs k i ((upd_lt h1).symm.trans e)
    · exact Nat.le_trans h.below.size h1
theorem PAt.lower {base base' : Nat} {ρ : Own} {t : Nat} {mbs : List (Nat × Nat)} (h : PAt W base ρ t gp room mbs L) (hb : base' ≤ base) : PAt W base' ρ t gp room mbs L := by
  obtain ⟨v, hx, hr⟩ := h.box
  refine ⟨⟨v, hx, Kd.R_lower hr hb⟩, h.okg, h.len, fun u x l hm hl => ?_, h.labs, h.few, h.tag⟩
  obtain ⟨v, fr, dr, buf, hq⟩ := h.qs u x l hm hl
  exact ⟨v, fr, dr, buf, hq.box, Kd.R_lower hq.row hb, hq.ring, hq.short, hq.dr0, hq.dr1, hq.okg, hq.room0, hq.room1⟩
theorem PS.new (w0 W : World) (hb : Below w0.heap.size w0 W) (users room : Nat) (h0 : 1 ≤ users) (h1 : users ≤ 16) (h2 : 1 ≤ room) (h3 : room ≤ 64) :
    Calls Try.prog 8 #[.int .i64 (users : Int), .int .i64 (room : Int)] W fun e W' => ∃ gp, e = .returned (.tuple #[.pointer (some ⟨gp, 0, none⟩), .int .i64 0]) ∧ PS w0 gp room (List.replicate users []) [] [] W' := by
  refine (pnew_calls (ρ := fun _ => some (0, 0)) (t := 1) users room h0 h1 h2 h3 (by decide)).mono ?_
  rintro e W' ⟨gp, mbs, ρ', he, hg, ho, hp, hB⟩
  refine ⟨gp, he, below_step hb hB, ρ', mbs, hp.lower hb.size, by simp, by simp, fun k i e => ?_⟩
  rcases Nat.lt_or_ge k W.heap.size with h4 | h4
  · rw [ho k h4] at e
    injection e with e
    injection e with e
    omega
  · exact Nat.le_trans hb.size h4
/-- Behind a call that turns the mailboxes alone. -/
theorem PS.turned (h : PS w0 gp room L rs bs W) {ρ ρ' : Own} {mbs : List (Nat × Nat)} {L' : List (List Msg)} (hr : ∀ r ∈ rs, Kd.R (Kd.int .i64) 3 W w0.heap.size (fun k => ρ k = some (0, 0)) (.slice r.1 r.2.2.length r.2.1) r.2.2) (hx : ∀ b ∈ bs, W.heap[b.1]? = some (.cells b.2.1 b.2.2 (0, 0)) ∧ ρ b.1 = some (0, 0)) (hbs : ∀ k i, ρ k = some (1, i) → w0.heap.size ≤ k)
    (ho : Agree W ρ ρ') (hp : PAt W' w0.heap.size ρ' 1 gp room mbs L') (hm : Mod W W' (fun k => ∃ i, ρ k = some (1, i))) : PS w0 gp room L' rs bs W' ∧ (∀ r ∈ rs, Kd.R (Kd.int .i64) 3 W' w0.heap.size (fun k => ρ' k = some (0, 0)) (.slice r.1 r.2.2.length r.2.1) r.2.2) ∧ (∀ b ∈ bs, W'.heap[b.1]? = some (.cells b.2.1 b.2.2 (0, 0)) ∧ ρ' b.1 = some (0, 0)) ∧ (∀ k i, ρ' k = some (1, i) → w0.heap.size ≤ k) ∧ Below w0.heap.size w0 W' := by
  have hB : Below w0.heap.size w0 W' := below_mod h.below hm (fun k ⟨i, hk⟩ => hbs k i hk) h.below.size
  have h1 : ∀ r ∈ rs, Kd.R (Kd.int .i64) 3 W' w0.heap.size (fun k => ρ' k = some (0, 0)) (.slice r.1 r.2.2.length r.2.1) r.2.2 := fun r hmr =>
    Kd.R_mono (Kd.R_step (Kd.R_bound (hr r hmr)) (fun k hk hlt => hm.block k hlt (fun ⟨i, e⟩ => by rw [hk.1] at e; injection e with e; injection e with e; omega))) (fun k hk => (ho k hk.2.2.1).trans hk.1)
  have h2 : ∀ b ∈ bs, W'.heap[b.1]? = some (.cells b.2.1 b.2.2 (0, 0)) ∧ ρ' b.1 = some (0, 0) := fun b hmb => by
    obtain ⟨h3, h4⟩ := hx b hmb
    exact ⟨(hm.block b.1 (blk_lt h3) (fun ⟨i, e⟩ => by rw [h4] at e; injection e with e; injection e with e; omega)).trans h3, (ho b.1 (blk_lt h3)).trans h4⟩
  have h5 : ∀ k i, ρ' k = some (1, i) → w0.heap.size ≤ k := fun k i e => by
    rcases Nat.lt_or_ge k W.heap.size with h6 | h6
    · exact hbs k i ((ho k h6).symm.trans e)
    · exact Nat.le_trans h.below.size h6
  exact ⟨⟨hB, ρ', mbs, hp, h1, h2, h5⟩, h1, h2, h5, hB⟩
theorem PS.send (h : PS w0 gp room L rs bs W) {who : Int} {A0 A1 A2 : Option Addr} {c0 c1 c2 : Nat} {S I own : List Int} (h0 : Rd W A0 c0 S) (h1 : Rd W A1 c1 I) (h2 : Rd W A2 c2 own) (hown : own.length ≤ 17592186044415) (tw : Int) (text : ByteArray) (op : Bool) {r : List Int × Int × List (List Msg)} (hr : sendL L room who S I own tw text op = r) :
    Calls Try.prog 9 #[.pointer (some ⟨gp, 0, none⟩), .agg #[.int .i64 who, .slice A0 S.length c0, .slice A1 I.length c1, .slice A2 own.length c2], .int .i64 tw, .string text, .bool op] W fun e W' => ∃ A c, e = .returned (.tuple #[.slice A r.1.length c, .int .i64 r.2.1]) ∧ PS w0 gp room r.2.2 ((A, c, r.1) :: rs) bs W' := by
  subst hr
  obtain ⟨ρ, mbs, hp, hrr, hx, hbs⟩ := h.ex
  refine (send_calls hp h0 h1 h2 hown tw text op h.below.size).mono ?_
  rintro e W' ⟨A, c, ρ', ho, he, hR, hp', hm⟩
  obtain ⟨hP, hr', hx', hbs', hB⟩ := h.turned hrr hx hbs ho hp' hm
  refine ⟨A, c, he, hB, ρ', mbs, hp', fun q hq => ?_, hx', hbs'⟩
  rcases List.mem_cons.1 hq with rfl | hq
  · exact Kd.R_lower hR h.below.size
  · exact hr' q hq
theorem PS.take (h : PS w0 gp room L rs bs W) (who : Int) {r : Msg × Bool × List (List Msg)} (hr : takeL L who = r) :
    Calls Try.prog 11 #[.pointer (some ⟨gp, 0, none⟩), .int .i64 who] W fun e W' => e = .returned (.tuple #[.agg #[.int .i64 r.1.1, .string r.1.2], .bool r.2.1]) ∧ PS w0 gp room r.2.2 rs bs W' := by
  subst hr
  obtain ⟨ρ, mbs, hp, hrr, hx, hbs⟩ := h.ex
  refine (hp.take_calls who).mono ?_
  rintro e W' ⟨he, ρ', ho, hp', hm⟩
  exact ⟨he, (h.turned hrr hx hbs ho hp' hm).1⟩
theorem PS.len (h : PS w0 gp room L rs bs W) (who : Int) {n : Int} (hn : lenL L who = n) : Calls Try.prog 13 #[.pointer (some ⟨gp, 0, none⟩), .int .i64 who] W fun e W' => e = .returned (.int .i64 n) ∧ W = W' := by
  subst hn
  obtain ⟨ρ, mbs, hp, _⟩ := h.ex
  exact hp.len_calls who
theorem PS.row (h : PS w0 gp room L rs bs W) {A : Option Addr} {c : Nat} {l : List Int} (hm : (A, c, l) ∈ rs) : Rd W A c l := by
  obtain ⟨ρ, mbs, hp, hrr, _⟩ := h.ex
  obtain ⟨_, h1, h2⟩ := Kd.R_reads' (hrr _ hm)
  exact ⟨h1, h2⟩
theorem PS.box (h : PS w0 gp room L rs bs W) {b : Nat × Array Value × TypeId} (hm : b ∈ bs) : W.heap[b.1]? = some (.cells b.2.1 b.2.2 (0, 0)) := by
  obtain ⟨ρ, mbs, hp, hrr, hx, _⟩ := h.ex
  exact (hx b hm).1
theorem PS.drop (h : PS w0 gp room L rs bs W) {rs' : List (Option Addr × Nat × List Int)} {bs' : List (Nat × Array Value × TypeId)} (h1 : ∀ r ∈ rs', r ∈ rs) (h2 : ∀ b ∈ bs', b ∈ bs) : PS w0 gp room L rs' bs' W := by
  obtain ⟨ρ, mbs, hp, hrr, hx, hbs⟩ := h.ex
  exact ⟨h.below, ρ, mbs, hp, fun r hr => hrr r (h1 r hr), fun b hb => hx b (h2 b hb), hbs⟩
theorem PS.same (h : PS w0 gp room L rs bs W) {A0 A1 : Option Addr} {c0 c1 : Nat} {l0 l1 : List Int} (h0 : Rd W A0 c0 l0) (h1 : Rd W A1 c1 l1) (hl : l0.length ≤ 17592186044415) {b : Bool} (hb : decide (l0 = l1) = b) :
    Calls Try.prog 16 #[.slice A0 l0.length c0, .slice A1 l1.length c1] W fun e w' => e = .returned (.bool b) ∧ PS w0 gp room L rs bs w' := by
  obtain ⟨k, hk⟩ := (Sempt.same_ev l0 l1 (by omega)).rounds
  rw [hb] at hk
  exact (Pbase.cloisterref01_Same.calls k A0 c0 l0 A1 c1 l1 b W h0.2 h0.1 h1.2 h1.1 hk).mono fun e w' ⟨he, q, hq⟩ => ⟨he, hq ▸ h.step (by exact ⟨rfl, rfl, rfl, Nat.le_refl _, fun _ _ => rfl⟩)⟩
end
end Go.Proofs.Ytclhddldbfdfdaa.PoW
