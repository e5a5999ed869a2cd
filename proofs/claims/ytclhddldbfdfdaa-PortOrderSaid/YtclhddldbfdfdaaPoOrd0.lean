/- PortOrder: the law's state; what it does to lists. -/
import Derived.Test.YtclhddldbfdfdaaPoL1
namespace Go.Proofs.Ytclhddldbfdfdaa.PoW
open Go.RowKit Go.Proofs.YtclhddldbfdfdaaW.PrintWords Go.Proofs.YtclhddldbfdfdaaW.PrintMore Go.Proofs.YtclhddldbfdfdaaW.PrintLast Go.Proofs.Ytclhddldbfdfdaa.LabF Go.Proofs.Ytclhddldbfdfdaa.SetF
set_option linter.unusedVariables false
set_option linter.unusedSimpArgs false
abbrev Hd := Option Addr × Nat × List ByteArray
def hdr (x : Hd) : Value := .slice x.1 x.2.2.length x.2.1
theorem info9 : (Try.prog.info? 9).map (fun i => (i.zero, i.size, i.bytes)) = some (some (.string ⟨#[]⟩), Kd.string.sz, 16) := by kernel_rfl
/-- Mailboxes at gp, three rows of texts whose headers stand at gb. -/
structure OS (w0 : World) (gp gb : Nat) (L : List (List Msg)) (hs : List Hd) (W : World) : Prop where
  below : Below w0.heap.size w0 W
  old : w0.heap.size ≤ gb
  ex : ∃ ρ mbs, PAt W w0.heap.size ρ 1 gp 64 mbs L ∧ W.heap[gb]? = some (.cells (hs.map hdr).toArray 28 (0, 0)) ∧ ρ gb = some (0, 0) ∧ (∀ u x, hs[u]? = some x → Kd.R Kd.string 9 W w0.heap.size (fun k => ρ k = some (2, u)) (hdr x) x.2.2) ∧ ∀ k i, ρ k = some (1, i) → w0.heap.size ≤ k
section
variable {w0 W W' : World} {gp gb : Nat} {L : List (List Msg)} {hs : List Hd}
theorem OS.step (h : OS w0 gp gb L hs W) (hb : Below W.heap.size W W') : OS w0 gp gb L hs W' := by
  obtain ⟨ρ, mbs, hp, hx, hg, hr, hbs⟩ := h.ex
  refine ⟨below_step h.below hb, h.old, upd ρ W.heap.size (0, 0), mbs, hp.below hb (fun k hk => upd_lt hk), blk_below hx hb, (upd_lt (blk_lt hx)).trans hg, fun u x hm => ?_, fun k i e => ?_⟩
  · exact Kd.R_mono (Kd.R_below (Kd.R_bound (hr u x hm)) hb) (fun k hk => (upd_lt hk.2.2.1).trans hk.1)
  · rcases Nat.lt_or_ge k W.heap.size with h1 | h1
    · exact hbs k i ((upd_lt h1).symm.trans e)
    · exact Nat.le_trans h.below.size h1
theorem OS.drew (h : OS w0 gp gb L hs W) : OS w0 gp gb L hs W.drew := h.step (below_drew (Below.refl _ _))
theorem OS.new (h : PS w0 gp 64 L [] [] W) : OS w0 gp W.heap.size L [(none, 0, []), (none, 0, []), (none, 0, [])] (W.alloc (.cells #[.slice none 0 0, .slice none 0 0, .slice none 0 0] 28)) := by
  have h2 := h.boxed #[.slice none 0 0, .slice none 0 0, .slice none 0 0] 28
  obtain ⟨ρ, mbs, hp, hr, hx, hbs⟩ := h2.ex
  obtain ⟨h3, h4⟩ := hx _ List.mem_cons_self
  refine ⟨h2.below, h.below.size, ρ, mbs, hp, h3, h4, fun u x hm => ?_, hbs⟩
  have : x = (none, 0, []) := by
    rcases u with _ | _ | _ | u
    · exact (Option.some.inj hm).symm
    · exact (Option.some.inj hm).symm
    · exact (Option.some.inj hm).symm
    · cases hm
  subst this
  exact Kd.R_nil _ _ _ _ _
theorem OS.turned (h : OS w0 gp gb L hs W) {ρ ρ' : Own} {mbs : List (Nat × Nat)} {L' : List (List Msg)} (hx : W.heap[gb]? = some (.cells (hs.map hdr).toArray 28 (0, 0))) (hg : ρ gb = some (0, 0)) (hr : ∀ u x, hs[u]? = some x → Kd.R Kd.string 9 W w0.heap.size (fun k => ρ k = some (2, u)) (hdr x) x.2.2) (hbs : ∀ k i, ρ k = some (1, i) → w0.heap.size ≤ k)
    (ho : Agree W ρ ρ') (hp : PAt W' w0.heap.size ρ' 1 gp 64 mbs L') (hm : Mod W W' (fun k => ∃ i, ρ k = some (1, i))) : OS w0 gp gb L' hs W' := by
  refine ⟨below_mod h.below hm (fun k ⟨i, hk⟩ => hbs k i hk) h.below.size, h.old, ρ', mbs, hp, (hm.block gb (blk_lt hx) (fun ⟨i, e⟩ => by rw [hg] at e; injection e with e; injection e with e; omega)).trans hx, (ho gb (blk_lt hx)).trans hg, fun u x hmr => ?_, fun k i e => ?_⟩
  · exact Kd.R_mono (Kd.R_step (Kd.R_bound (hr u x hmr)) (fun k hk hlt => hm.block k hlt (fun ⟨i, e⟩ => by rw [hk.1] at e; injection e with e; injection e with e; omega))) (fun k hk => (ho k hk.2.2.1).trans hk.1)
  · rcases Nat.lt_or_ge k W.heap.size with h6 | h6
    · exact hbs k i ((ho k h6).symm.trans e)
    · exact Nat.le_trans h.below.size h6
theorem OS.sendS (h : OS w0 gp gb L hs W) {who : Int} {a b : Option Addr} (h0 : Rd W a 1 [2 * who + 1]) (h2 : Rd W b 1 [2 * who + 1]) (tw : Int) (text : ByteArray) {rl : List Int} {re : Int} {L' : List (List Msg)} (hr : sendL L 64 who [2 * who + 1] [] [2 * who + 1] tw text true = (rl, re, L')) :
    Calls Try.prog 9 #[.pointer (some ⟨gp, 0, none⟩), .agg #[.int .i64 who, .slice a 1 1, .slice none 0 0, .slice b 1 1], .int .i64 tw, .string text, .bool true] W fun e W' => ∃ A c, e = .returned (.tuple #[.slice A rl.length c, .int .i64 re]) ∧ OS w0 gp gb L' hs W' := by
  obtain ⟨ρ, mbs, hp, hx, hg, hrr, hbs⟩ := h.ex
  have := send_calls (who := who) (S := [2 * who + 1]) (I := []) (own := [2 * who + 1]) hp h0 (Rd.nil _) h2 (by simp) tw text true h.below.size
  rw [hr] at this
  refine this.mono ?_
  rintro e W' ⟨A, c, ρ', ho, he, hR, hp', hm⟩
  exact ⟨A, c, he, h.turned hx hg hrr hbs ho hp' hm⟩
theorem OS.take (h : OS w0 gp gb L hs W) (who : Int) {f : Int} {x : ByteArray} {b : Bool} {L' : List (List Msg)} (hr : takeL L who = ((f, x), b, L')) :
    Calls Try.prog 11 #[.pointer (some ⟨gp, 0, none⟩), .int .i64 who] W fun e W' => e = .returned (.tuple #[.agg #[.int .i64 f, .string x], .bool b]) ∧ OS w0 gp gb L' hs W' := by
  obtain ⟨ρ, mbs, hp, hx, hg, hrr, hbs⟩ := h.ex
  have := hp.take_calls who
  unfold TakePost at this
  rw [hr] at this
  refine this.mono ?_
  rintro e W' ⟨he, ρ', ho, hp', hm⟩
  exact ⟨he, h.turned hx hg hrr hbs ho hp' hm⟩
theorem OS.cell (h : OS w0 gp gb L hs W) {u : Nat} {x : Hd} (hu : hs[u]? = some x) : W.cell? ⟨gb, u, none⟩ = some (hdr x) ∧ W.frozen? ⟨gb, u, none⟩ = false ∧ gb < W.heap.size := by
  obtain ⟨ρ, mbs, hp, hx, hg, hrr, hbs⟩ := h.ex
  refine ⟨(blk_cell hx u).trans ?_, blk_frozen hx u, blk_lt hx⟩
  simp [hu]
theorem OS.text (h : OS w0 gp gb L hs W) {u : Nat} {x : Hd} (hu : hs[u]? = some x) : Kd.C Kd.string W x.1 x.2.2.length x.2.2 := by
  obtain ⟨ρ, mbs, hp, hx, hg, hrr, hbs⟩ := h.ex
  exact (Kd.R_reads' (hrr u x hu)).2.2
theorem mod_set {W W' : World} {S : Nat → Prop} (h : Mod W W' S) (a i : Nat) (ha : S a ∨ W.heap.size ≤ a) (u : Value) : Mod W (W'.setCell ⟨a, i, none⟩ u) S := h.set ⟨a, i, none⟩ u ha
/-- One more text behind a row. -/
theorem OS.put (h : OS w0 gp gb L hs W) {ρ : Own} {mbs : List (Nat × Nat)} (hp : PAt W w0.heap.size ρ 1 gp 64 mbs L) (hx : W.heap[gb]? = some (.cells (hs.map hdr).toArray 28 (0, 0))) (hg : ρ gb = some (0, 0)) (hr : ∀ u x, hs[u]? = some x → Kd.R Kd.string 9 W w0.heap.size (fun k => ρ k = some (2, u)) (hdr x) x.2.2) (hbs : ∀ k i, ρ k = some (1, i) → w0.heap.size ≤ k)
    {Wl w3 : World} (hb : Below W.heap.size W Wl) {u : Nat} {x : Hd} (hu : hs[u]? = some x) {A1 : Option Addr} {c1 : Nat} {t : ByteArray} (hR : Kd.R Kd.string 9 w3 w0.heap.size (fun k => upd (upd ρ W.heap.size (0, 0)) Wl.heap.size (2, u) k = some (2, u)) (.slice A1 (x.2.2 ++ [t]).length c1) (x.2.2 ++ [t])) (hG : Wl.grownBy w3 (hdr x).ownBlock) :
    OS w0 gp gb L (hs.set u (A1, c1, x.2.2 ++ [t])) (w3.setCell ⟨gb, u, none⟩ (.slice A1 (x.2.2 ++ [t]).length c1)) := by
  have hgl := blk_lt hx
  have hz := hb.size
  have hgo : upd ρ W.heap.size (0, 0) gb = some (0, 0) := (upd_lt hgl).trans hg
  have hrow : ∀ k, (hdr x).ownBlock = some k → ρ k = some (2, u) := fun k hk => (hr u x hu).1 k hk
  have hrl : ∀ k, (hdr x).ownBlock = some k → k < W.heap.size := Kd.R_lt (hr u x hu)
  have hm : Mod Wl (w3.setCell ⟨gb, u, none⟩ (.slice A1 (x.2.2 ++ [t]).length c1)) (fun k => (hdr x).ownBlock = some k ∨ k = gb) :=
    mod_set ((Mod.refl Wl _).grown hG (fun k hk => .inl (.inl hk))) gb u (.inl (.inr rfl)) _
  have hag : Agree W ρ (upd ρ W.heap.size (0, 0)) := fun k hk => upd_lt hk
  have hag2 : Agree Wl (upd ρ W.heap.size (0, 0)) (upd (upd ρ W.heap.size (0, 0)) Wl.heap.size (2, u)) := fun k hk => upd_lt hk
  have hx2 : Wl.heap[gb]? = _ := blk_below hx hb
  have hx3 := blk_grown hx2 hG (fun e => by have := hrow gb e.symm; rw [hg] at this; injection this with e; injection e with e; omega)
  refine ⟨?_, h.old, upd (upd ρ W.heap.size (0, 0)) Wl.heap.size (2, u), mbs, ?_, ?_, (hag2 gb (by omega)).trans hgo, fun i y hy => ?_, fun k i e => ?_⟩
  · refine below_mod (below_step h.below hb) hm (fun k hk => ?_) (Nat.le_trans h.below.size hz)
    rcases hk with hk | rfl
    · exact Kd.R_base (hr u x hu) k hk
    · exact h.old
  · refine (hp.below hb hag).mod hm (fun k hk hS => ?_) hag2
    rcases hS with hS | rfl
    · rw [(upd_lt (hrl k hS)).trans (hrow k hS)]; exact ⟨by simp, fun i e => by injection e with e; injection e with e; omega⟩
    · rw [hgo]; exact ⟨by simp, fun i e => by injection e with e; injection e with e; omega⟩
  · rw [blk_set hx3 u _]
    simp [List.map_set, hdr]
  · rcases Nat.decEq i u with hiu | rfl
    · rw [List.getElem?_set_ne (Ne.symm hiu)] at hy
      refine Kd.R_mono (Kd.R_step (Kd.R_below (Kd.R_bound (hr i y hy)) hb) (fun k hk hlt => hm.block k hlt (fun e => ?_))) (fun k hk => (upd_lt (by omega)).trans ((upd_lt hk.2.2.1).trans hk.1))
      rcases e with e | rfl
      · have e2 := (hrow k e).symm.trans hk.1; injection e2 with e2; injection e2 with e2; omega
      · rw [hg] at hk; have := hk.1; injection this with e; injection e with e; omega
    · have hl := (List.getElem?_eq_some_iff.1 hu).1
      rw [List.getElem?_set_self hl] at hy
      obtain rfl := Option.some.inj hy
      exact Kd.R_far hR (fun k hk e => by
        have e : k = gb := e
        subst e
        rw [upd_lt (by omega), hgo] at hk; injection hk with e; injection e with e; omega) _
  · rcases Nat.lt_or_ge k Wl.heap.size with h6 | h6
    · rw [upd_lt h6] at e
      rcases Nat.lt_or_ge k W.heap.size with h7 | h7
      · rw [upd_lt h7] at e; exact hbs k i e
      · rw [upd_ge h7] at e; injection e with e; injection e with e; omega
    · rw [upd_ge h6] at e; injection e with e; injection e with e; omega
end
/-! Lists -/
def Rl (L : List (List Msg)) (f : Nat → List ByteArray) : Prop := L.length = 3 ∧ ∀ j, j < 3 → (L.getD j []).map Prod.snd = f j
theorem cats1 {who : Nat} (hw : who < 3) : Cats [2 * (who : Int) + 1] := cats_one (by omega)
theorem rl_long {L : List (List Msg)} {f : Nat → List ByteArray} (h : Rl L f) {who u : Nat} (hw : who < 3) (hu : u < 3) {t : ByteArray} (ht : 1024 < t.size) : sendL L 64 (who : Int) [2 * (who : Int) + 1] [] [2 * (who : Int) + 1] (u : Int) t true = ([], 4, L) := by
  have h1 := h.1
  unfold sendL
  rw [if_neg (not_not_intro ⟨by omega, by omega⟩), if_neg (not_not_intro (cats1 hw)), if_neg (not_not_intro (show May _ _ from ⟨by simp, by simp, cats1 hw, cats_nil⟩)), if_pos ht]
theorem rl_send {L : List (List Msg)} {f : Nat → List ByteArray} (h : Rl L f) {who u : Nat} (hw : who < 3) (hu : u < 3) {t : ByteArray} (ht : t.size ≤ 1024) : ∃ rl L', sendL L 64 (who : Int) [2 * (who : Int) + 1] [] [2 * (who : Int) + 1] (u : Int) t true = (rl, 0, L') ∧ Rl L' (fun j => if j = u ∧ (f u).length < 64 then f u ++ [t] else f j) := by
  have h1 := h.1
  refine ⟨_, _, (send_subj L 64 who u t true (by omega) (by omega) (by omega) ht).trans (if_pos (.inl rfl)), ?_, fun j hj => ?_⟩
  · show (List.set _ _ _).length = 3
    rw [List.length_set]; exact h1
  · have hfu : (L.getD u []).length = (f u).length := by rw [← h.2 u hu, List.length_map]
    show ((pushL L 64 (u : Int).toNat _).getD j []).map Prod.snd = if j = u ∧ (f u).length < 64 then f u ++ [t] else f j
    unfold pushL
    rw [Int.toNat_natCast, hfu]
    by_cases e : j = u
    · subst e
      rw [List.getD_eq_getElem?_getD, List.getElem?_set_self (by omega)]
      by_cases hl : (f j).length < 64
      · rw [if_pos hl, if_pos ⟨rfl, hl⟩]
        show List.map Prod.snd (_ ++ _) = _
        rw [List.map_append, h.2 j hj]; rfl
      · rw [if_neg hl, if_neg (fun h => hl h.2)]
        exact h.2 j hj
    · rw [if_neg (show ¬ (j = u ∧ (f u).length < 64) from fun h => e h.1), List.getD_eq_getElem?_getD, List.getElem?_set_ne (Ne.symm e), ← List.getD_eq_getElem?_getD]
      exact h.2 j hj
theorem rl_take {L : List (List Msg)} {f : Nat → List ByteArray} (h : Rl L f) {k : Nat} (hk : k < 3) {t : ByteArray} {l : List ByteArray} (hf : f k = t :: l) : ∃ fr L', takeL L (k : Int) = ((fr, t), true, L') ∧ Rl L' (fun j => if j = k then l else f j) := by
  have h1 := h.1
  have h2 := h.2 k hk
  rw [hf] at h2
  unfold takeL
  rw [if_pos (by omega), Int.toNat_natCast]
  cases hL : L.getD k [] with
  | nil => rw [hL] at h2; simp at h2
  | cons x r =>
    rw [hL] at h2
    simp only [List.map_cons, List.cons.injEq] at h2
    obtain ⟨rfl, h3⟩ := h2
    refine ⟨x.1, _, rfl, by rw [List.length_set]; exact h1, fun j hj => ?_⟩
    show _ = if j = k then l else f j
    by_cases e : j = k
    · subst e
      rw [if_pos rfl, List.getD_eq_getElem?_getD, List.getElem?_set_self (by omega)]
      exact h3
    · rw [if_neg e, List.getD_eq_getElem?_getD, List.getElem?_set_ne (Ne.symm e), ← List.getD_eq_getElem?_getD]
      exact h.2 j hj
theorem rl_none {L : List (List Msg)} {f : Nat → List ByteArray} (h : Rl L f) {k : Nat} (hk : k < 3) (hf : f k = []) : takeL L (k : Int) = ((0, ⟨#[]⟩), false, L) := by
  have h1 := h.1
  have h2 := h.2 k hk
  rw [hf] at h2
  unfold takeL
  rw [if_pos (by omega), Int.toNat_natCast]
  cases hL : L.getD k [] with
  | nil => rfl
  | cons x r => rw [hL] at h2; simp at h2
end Go.Proofs.Ytclhddldbfdfdaa.PoW
