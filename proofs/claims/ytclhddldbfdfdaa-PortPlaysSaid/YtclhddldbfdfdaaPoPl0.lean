/- PortPlays: the law's state. -/
import Derived.Test.YtclhddldbfdfdaaPoDoes
import Derived.Test.YtclhddldbfdfdaaPoCp
import Derived.Test.YtclhddldbfdfdaaPplx0
namespace Go.Proofs.Ytclhddldbfdfdaa.PoW
open Go.RowKit Go.Proofs.YtclhddldbfdfdaaW.PrintWords Go.Proofs.YtclhddldbfdfdaaW.PrintMore Go.Proofs.YtclhddldbfdfdaaW.PrintLast Go.Proofs.Ytclhddldbfdfdaa.LabF Go.Proofs.Ytclhddldbfdfdaa.SetF
set_option linter.unusedVariables false
set_option linter.unusedSimpArgs false
abbrev Bx := Nat × Array Value × TypeId
structure PL (w0 W : World) (gp room : Nat) (mbs : List (Nat × Nat)) (q : List (List RM)) (A : Option Addr) (c : Nat) (qo : List (List RM)) (Ao : Option Addr) (co : Nat) (cp : Option (Nat × List (Nat × Nat))) (bs : List Bx) : Prop where
  ex : ∃ ρ, PW w0 W gp room mbs q A c ρ ∧ QV W (fun k => ρ k = some (0, 0)) Ao co qo ∧ (∀ x, cp = some x → PAt W w0.heap.size ρ 2 x.1 room x.2 (qL qo)) ∧ ∀ b ∈ bs, W.heap[b.1]? = some (.cells b.2.1 b.2.2 (0, 0)) ∧ ρ b.1 = some (3, 0) ∧ w0.heap.size ≤ b.1
  nd : (bs.map (·.1)).Nodup
section
variable {w0 W W' : World} {gp room : Nat} {mbs : List (Nat × Nat)} {q qo : List (List RM)} {A Ao : Option Addr} {c co : Nat} {cp : Option (Nat × List (Nat × Nat))} {bs : List Bx}
theorem PL.below (h : PL w0 W gp room mbs q A c qo Ao co cp bs) : Below w0.heap.size w0 W := by
  obtain ⟨ρ, hp, _⟩ := h.ex
  exact hp.below
theorem PW.step {ρ ρ' : Own} (h : PW w0 W gp room mbs q A c ρ) (hb : Below W.heap.size W W') (ha : Agree W ρ ρ') : PW w0 W' gp room mbs q A c ρ' := by
  refine ⟨below_step h.below hb, h.p.below hb ha, Kd.V_mono (Kd.V_below (Kd.V_bound h.v) hb) (fun k hk => (ha k hk.2).trans hk.1), fun k i e => ?_⟩
  rcases Nat.lt_or_ge k W.heap.size with h6 | h6
  · exact h.bs k i ((ha k h6).symm.trans e)
  · exact Nat.le_trans h.below.size h6
theorem PL.step (h : PL w0 W gp room mbs q A c qo Ao co cp bs) (hb : Below W.heap.size W W') : PL w0 W' gp room mbs q A c qo Ao co cp bs := by
  obtain ⟨ρ, hp, hv, hc, hx⟩ := h.ex
  exact ⟨⟨ρ, hp.step hb (Agree.refl _ _), Kd.V_below hv hb, fun x e => (hc x e).below hb (Agree.refl _ _), fun b hm => ⟨blk_below (hx b hm).1 hb, (hx b hm).2⟩⟩, h.nd⟩
theorem PL.lt (h : PL w0 W gp room mbs q A c qo Ao co cp bs) {b : Bx} (hm : b ∈ bs) : b.1 < W.heap.size := by
  obtain ⟨ρ, hp, hv, hc, hx⟩ := h.ex
  exact blk_lt (hx b hm).1
theorem PL.box (h : PL w0 W gp room mbs q A c qo Ao co cp bs) {b : Bx} (hm : b ∈ bs) : W.heap[b.1]? = some (.cells b.2.1 b.2.2 (0, 0)) := by
  obtain ⟨ρ, hp, hv, hc, hx⟩ := h.ex
  exact (hx b hm).1
theorem PL.boxed (h : PL w0 W gp room mbs q A c qo Ao co cp bs) (cs : Array Value) (t : TypeId) {W' : World} (e : W.alloc (.cells cs t) = W') : PL w0 W' gp room mbs q A c qo Ao co cp ((W.heap.size, cs, t) :: bs) := by
  subst e
  have hb := below_alloc (Below.refl W.heap.size W) (.cells cs t)
  have hn : ∀ b ∈ bs, b.1 ≠ W.heap.size := fun b hm => Nat.ne_of_lt (h.lt hm)
  obtain ⟨ρ, hp, hv, hc, hx⟩ := h.ex
  have ha : Agree W ρ (upd ρ W.heap.size (3, 0)) := fun k hk => upd_lt hk
  refine ⟨⟨upd ρ W.heap.size (3, 0), hp.step hb ha, Kd.V_mono (Kd.V_below (Kd.V_bound hv) hb) (fun k hk => (ha k hk.2).trans hk.1), fun x e => (hc x e).below hb ha, fun b hm => ?_⟩, ?_⟩
  · rcases List.mem_cons.1 hm with rfl | hm
    · exact ⟨heap_alloc_new W _, upd_ge (Nat.le_refl _), hp.below.size⟩
    · obtain ⟨h1, h2, h3⟩ := hx b hm
      exact ⟨blk_below h1 hb, (ha _ (blk_lt h1)).trans h2, h3⟩
  · rw [List.map_cons, List.nodup_cons]
    refine ⟨fun hm => ?_, h.nd⟩
    obtain ⟨b, hb1, hb2⟩ := List.mem_map.1 hm
    exact hn b hb1 hb2
theorem PL.sub (h : PL w0 W gp room mbs q A c qo Ao co cp bs) (bs' : List Bx) (h1 : ∀ b ∈ bs', b ∈ bs) (h2 : (bs'.map (·.1)).Nodup) : PL w0 W gp room mbs q A c qo Ao co cp bs' := by
  obtain ⟨ρ, hp, hv, hc, hx⟩ := h.ex
  exact ⟨⟨ρ, hp, hv, hc, fun b hm => hx b (h1 b hm)⟩, h2⟩
/-- A store of two cells into the first box. -/
theorem PL.set2 {n : Nat} {t : TypeId} {x y : Value} (h : PL w0 W gp room mbs q A c qo Ao co cp ((n, #[x, y], t) :: bs)) (u v : Value) : PL w0 ((W.setCell ⟨n, 0, none⟩ u).setCell ⟨n, 1, none⟩ v) gp room mbs q A c qo Ao co cp ((n, #[u, v], t) :: bs) := by
  have hnd := h.nd
  rw [List.map_cons, List.nodup_cons] at hnd
  obtain ⟨ρ, hp, hv, hc, hx⟩ := h.ex
  obtain ⟨h1, h2, h3⟩ := hx _ List.mem_cons_self
  have h1 : W.heap[n]? = some (.cells #[x, y] t (0, 0)) := h1
  have h2 : ρ n = some (3, 0) := h2
  have hm : Mod W ((W.setCell ⟨n, 0, none⟩ u).setCell ⟨n, 1, none⟩ v) (fun k => k = n) := mod_set2 (S := fun k => k = n) (mod_set2 (S := fun k => k = n) (Mod.refl _ _) _ 0 (.inl rfl) _) _ 1 (.inl rfl) _
  have hS : ∀ t' : Nat, t' ≠ 3 → ∀ k, k < W.heap.size → k = n → ρ k ≠ none ∧ ∀ i, ρ k ≠ some (t', i) := fun t' ht k _ e => by
    rw [e, h2]
    exact ⟨by simp, fun i e => by injection e with e; injection e with e; omega⟩
  have hq : ∀ k, ρ k = some (0, 0) → k < W.heap.size → ¬ k = n := fun k hk _ e => by
    rw [e, h2] at hk; injection hk with hk; injection hk with hk; omega
  refine ⟨⟨ρ, ⟨below_mod hp.below hm (fun k e => by rw [e]; exact h3) hp.below.size, hp.p.mod hm (hS 1 (by decide)) (Agree.refl _ _), qv_mod hp.v hm hq, hp.bs⟩, qv_mod hv hm hq, fun x e => (hc x e).mod hm (hS 2 (by decide)) (Agree.refl _ _), fun b hb => ?_⟩, by rw [List.map_cons, List.nodup_cons]; exact hnd⟩
  rcases List.mem_cons.1 hb with rfl | hb
  · exact ⟨blk_set (blk_set h1 0 _) 1 _, h2, h3⟩
  · obtain ⟨g1, g2, g3⟩ := hx b (List.mem_cons_of_mem _ hb)
    exact ⟨(hm.block _ (blk_lt g1) (fun e => hnd.1 (List.mem_map.2 ⟨b, hb, e⟩))).trans g1, g2, g3⟩
/-- Behind does. -/
theorem PL.did (h : PL w0 W gp room mbs q A c qo Ao co cp bs) {V : Value} {q' : List (List RM)}
    (hc : ∀ ρ, PW w0 W gp room mbs q A c ρ → Calls Try.prog 18 #[.pointer (some ⟨gp, 0, none⟩), .agg #[.int .i64 (room : Int), .slice A q.length c], V] W (DoesPost w0 W gp room mbs q' ρ)) :
    Calls Try.prog 18 #[.pointer (some ⟨gp, 0, none⟩), .agg #[.int .i64 (room : Int), .slice A q.length c], V] W fun e W' => ∃ A' c', e = .returned (.tuple #[.agg #[.int .i64 (room : Int), .slice A' q'.length c'], .bool true]) ∧ PL w0 W' gp room mbs q' A' c' qo Ao co cp bs := by
  obtain ⟨ρ, hp, hv, hcp, hx⟩ := h.ex
  refine (hc ρ hp).mono ?_
  rintro e W' ⟨A', c', ρ', he, ha, hp', hm⟩
  refine ⟨A', c', he, ⟨ρ', hp', ?_, fun x e => ?_, fun b hb => ?_⟩, h.nd⟩
  · exact Kd.V_mono (qv_mod (Kd.V_bound hv) hm (fun k hk _ ⟨i, e⟩ => by rw [hk.1] at e; injection e with e; injection e with e; omega)) (fun k hk => (ha k hk.2).trans hk.1)
  · exact (hcp x e).mod hm (fun k _ ⟨i, e⟩ => by rw [e]; exact ⟨by simp, fun j e => by injection e with e; injection e with e; omega⟩) ha
  · obtain ⟨g1, g2, g3⟩ := hx b hb
    exact ⟨(hm.block _ (blk_lt g1) (fun ⟨i, e⟩ => by rw [g2] at e; injection e with e; injection e with e; omega)).trans g1, (ha _ (blk_lt g1)).trans g2, g3⟩
theorem PL.copied (h : PL w0 W gp room mbs q A c qo Ao co cp bs) (hq : 0 < q.length) :
    Calls Try.prog 19 #[.pointer (some ⟨gp, 0, none⟩)] W fun e W' => ∃ gc mbs', e = .returned (.pointer (some ⟨gc, 0, none⟩)) ∧ PL w0 W' gp room mbs q A c q A c (some (gc, mbs')) bs := by
  obtain ⟨ρ, hp, hv, hcp, hx⟩ := h.ex
  refine (pcopy_calls hp.p (by rw [qL_len]; exact hq)).mono ?_
  rintro e W' ⟨gc, mbs', ρ', he, hg, ha, hP, hb⟩
  refine ⟨gc, mbs', he, ⟨ρ', hp.step hb ha, (hp.step hb ha).v, fun x e => ?_, fun b hm => ?_⟩, h.nd⟩
  · obtain rfl := Option.some.inj e
    exact hP.lower hp.below.size
  · obtain ⟨g1, g2, g3⟩ := hx b hm
    exact ⟨blk_below g1 hb, (ha _ (blk_lt g1)).trans g2, g3⟩
theorem PL.len (h : PL w0 W gp room mbs q A c qo Ao co cp bs) (k : Int) {n : Int} (hn : lenL (qL q) k = n) : Calls Try.prog 13 #[.pointer (some ⟨gp, 0, none⟩), .int .i64 k] W fun e W' => e = .returned (.int .i64 n) ∧ W = W' := by
  subst hn
  obtain ⟨ρ, hp, _⟩ := h.ex
  exact hp.p.len_calls k
theorem PL.clen {gc : Nat} {mbs' : List (Nat × Nat)} (h : PL w0 W gp room mbs q A c qo Ao co (some (gc, mbs')) bs) (k : Int) {n : Int} (hn : lenL (qL qo) k = n) : Calls Try.prog 13 #[.pointer (some ⟨gc, 0, none⟩), .int .i64 k] W fun e W' => e = .returned (.int .i64 n) ∧ W = W' := by
  subst hn
  obtain ⟨ρ, hp, hv, hcp, _⟩ := h.ex
  exact (hcp _ rfl).len_calls k
theorem rlen_raw {ok : Nat → Prop} (hv : QV W ok A c q) (r k : Int) : Calls Try.prog 20 #[.agg #[.int .i64 r, .slice A q.length c], .int .i64 k] W fun e W' => e = .returned (.int .i64 (lenL (qL q) k)) ∧ Below W.heap.size W W' := by
  obtain ⟨_, h1, h2⟩ := Kd.V_reads' hv
  refine Ppt.cloisterref16_Len.calls r A c q k _ W h2 h1 ?_
  unfold Ppt.cloisterref16_Len.f lenL
  rw [qL_len]
  by_cases h3 : 0 ≤ k ∧ k < (q.length : Int)
  · rw [if_neg (by omega), if_neg (by omega), if_pos h3.1, if_pos h3.2, if_pos h3, qL_getD, List.length_map]
    rfl
  · rw [if_neg h3]
    by_cases h4 : k < 0
    · rw [if_pos h4]
    · rw [if_neg h4, if_pos (by omega)]
theorem PL.rlen (h : PL w0 W gp room mbs q A c qo Ao co cp bs) (k : Int) {n : Int} (hn : lenL (qL q) k = n) : Calls Try.prog 20 #[.agg #[.int .i64 (room : Int), .slice A q.length c], .int .i64 k] W fun e W' => e = .returned (.int .i64 n) ∧ PL w0 W' gp room mbs q A c qo Ao co cp bs := by
  subst hn
  obtain ⟨ρ, hp, _⟩ := h.ex
  exact (rlen_raw hp.v room k).mono fun e W' ⟨he, hb⟩ => ⟨he, h.step hb⟩
theorem PL.rolen (h : PL w0 W gp room mbs q A c qo Ao co cp bs) (r k : Int) {n : Int} (hn : lenL (qL qo) k = n) : Calls Try.prog 20 #[.agg #[.int .i64 r, .slice Ao qo.length co], .int .i64 k] W fun e W' => e = .returned (.int .i64 n) ∧ PL w0 W' gp room mbs q A c qo Ao co cp bs := by
  subst hn
  obtain ⟨ρ, hp, hv, _⟩ := h.ex
  exact (rlen_raw hv r k).mono fun e W' ⟨he, hb⟩ => ⟨he, h.step hb⟩
end
end Go.Proofs.Ytclhddldbfdfdaa.PoW
