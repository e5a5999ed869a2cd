/- Mailboxes in memory; is, Len. Mailboxes: Take; one more. port.New. port.Send. -/
import Derived.Test.YtclhddldbfdfdaaPoMR
import Derived.Test.YtclhddldbfdfdaaSemLab2
namespace Go.Proofs.Ytclhddldbfdfdaa.PoW
open Go.RowKit Go.Proofs.YtclhddldbfdfdaaW.PrintWords Go.Proofs.YtclhddldbfdfdaaW.PrintMore Go.Proofs.YtclhddldbfdfdaaW.PrintLast
set_option linter.unusedVariables false
set_option linter.unusedSimpArgs false
def kMb : Kd (Nat × Nat) := Kd.iso (Kd.pair (Kd.scalar (fun n : Nat => Value.pointer (some ⟨n, 0, none⟩)) (fun _ => rfl)) (Kd.pair (Kd.scalar (fun n : Nat => Value.slice (some ⟨n, 0, none⟩) 1 1) (fun _ => rfl)) (Kd.scalar (fun _ : Unit => Value.slice none 0 0) (fun _ => rfl)))) (fun x : Nat × Nat => (x.1, x.2, ()))
def encMb (x : Nat × Nat) : List Value := [.pointer (some ⟨x.1, 0, none⟩), .slice (some ⟨x.2, 0, none⟩) 1 1, .slice none 0 0]
theorem kMb_K {w : World} {x : Nat × Nat} {cs : List Value} (h : kMb.K w x cs) : cs = encMb x := by
  obtain ⟨_, _, rfl, rfl, _, _, rfl, rfl, rfl⟩ := h
  exact rfl
theorem kMb_mk (w : World) (x : Nat × Nat) : kMb.K w x (encMb x) := ⟨_, _, rfl, rfl, _, _, rfl, rfl, rfl⟩
theorem kMb_M {w : World} {base : Nat} {ok : Nat → Prop} {x : Nat × Nat} {cs : List Value} (h : kMb.K w x cs) : kMb.M w base ok x cs := by
  obtain ⟨_, _, rfl, h1, _, _, rfl, h2, h3⟩ := h
  exact ⟨_, _, rfl, h1, _, _, rfl, h2, h3⟩
theorem kMb_sz : kMb.sz = 3 := rfl
abbrev Own := Nat → Option (Nat × Nat)
/-- What is new from a size on belongs to one. -/
def upd (ρ : Own) (n : Nat) (t : Nat × Nat) : Own := fun k => if k < n then ρ k else some t
theorem upd_lt {ρ : Own} {n k : Nat} {t : Nat × Nat} (h : k < n) : upd ρ n t k = ρ k := if_pos h
theorem upd_ge {ρ : Own} {n k : Nat} {t : Nat × Nat} (h : n ≤ k) : upd ρ n t k = some t := if_neg (by omega)
/-- Mailboxes: their box at gp, their table's rows mbs, what waits L. -/
structure PAt (W : World) (base : Nat) (ρ : Own) (t gp room : Nat) (mbs : List (Nat × Nat)) (L : List (List Msg)) : Prop where
  box : ∃ v, W.heap[gp]? = some (.cells #[v] 62 (0, 0)) ∧ Kd.R kMb 69 W base (fun k => ρ k = some (t, 0) ∧ k ≠ gp) v mbs
  okg : ρ gp = some (t, 0)
  len : mbs.length = L.length
  qs : ∀ (u : Nat) x l, mbs[u]? = some x → L[u]? = some l → QAt W base (fun k => ρ k = some (t, u + 1)) x.1 room l
  labs : ∀ (u : Nat) x, mbs[u]? = some x → W.heap[x.2]? = some (.cells #[.int .i64 (2 * (u : Int) + 1)] 3 (0, 0)) ∧ ρ x.2 = none
  few : L.length ≤ 16
  tag : 0 < t
section
variable {W W' : World} {base : Nat} {ρ ρ' : Own} {t gp room : Nat} {mbs : List (Nat × Nat)} {L : List (List Msg)}
theorem PAt.move (h : PAt W base ρ t gp room mbs L) (hm : ∀ k, (ρ k = none ∨ ∃ i, ρ k = some (t, i)) → k < W.heap.size → W'.heap[k]? = W.heap[k]?) (ho : ∀ k, k < W.heap.size → ρ' k = ρ k) : PAt W' base ρ' t gp room mbs L := by
  obtain ⟨v, hb, hr⟩ := h.box
  have hgl := blk_lt hb
  refine ⟨⟨v, (hm gp (.inr ⟨0, h.okg⟩) hgl).trans hb, ?_⟩, (ho gp hgl).trans h.okg, h.len, fun u x l hx hl => ?_, fun u x hx => ?_, h.few, h.tag⟩
  · exact Kd.R_mono (Kd.R_step (Kd.R_bound hr) (fun k hk hlt => hm k (.inr ⟨0, hk.1.1⟩) hlt)) (fun k hk => ⟨(ho k hk.2.2.1).trans hk.1.1, hk.1.2⟩)
  · exact (h.qs u x l hx hl).move (fun k hk hlt => hm k (.inr ⟨u + 1, hk⟩) hlt) (fun k hk hlt => (ho k hlt).trans hk)
  · obtain ⟨h1, h2⟩ := h.labs u x hx
    exact ⟨(hm x.2 (.inl h2) (blk_lt h1)).trans h1, (ho x.2 (blk_lt h1)).trans h2⟩
/-- One queue turned. -/
theorem PAt.turn (h : PAt W base ρ t gp room mbs L) {u : Nat} {x : Nat × Nat} {l : List Msg} (hx : mbs[u]? = some x) (hq : QAt W' base (fun k => ρ' k = some (t, u + 1)) x.1 room l) (hm : Mod W W' (fun k => ρ k = some (t, u + 1))) (ho : ∀ k, k < W.heap.size → ρ' k = ρ k) : PAt W' base ρ' t gp room mbs (L.set u l) := by
  obtain ⟨v, hb, hr⟩ := h.box
  have hgl := blk_lt hb
  refine ⟨⟨v, (hm.block gp hgl (by rw [h.okg]; simp)).trans hb, ?_⟩, (ho _ hgl).trans h.okg, by rw [List.length_set]; exact h.len, fun i y l' hy hl => ?_, fun i y hy => ?_, by rw [List.length_set]; exact h.few, h.tag⟩
  · exact Kd.R_mono (Kd.R_step (Kd.R_bound hr) (fun k hk hlt => hm.block k hlt (by rw [hk.1.1]; simp))) (fun k hk => ⟨(ho _ hk.2.2.1).trans hk.1.1, hk.1.2⟩)
  · by_cases e : i = u
    · subst e
      rw [hx] at hy
      obtain rfl := Option.some.inj hy
      have hlt : i < L.length := by rw [← h.len]; exact (List.getElem?_eq_some_iff.1 hx).1
      rw [List.getElem?_set_self hlt] at hl
      obtain rfl := Option.some.inj hl
      exact hq
    · rw [List.getElem?_set_ne (Ne.symm e)] at hl
      exact (h.qs i y l' hy hl).move (fun k hk hlt => hm.block k hlt (by rw [hk]; simp; omega)) (fun k hk hlt => (ho _ hlt).trans hk)
  · obtain ⟨h1, h2⟩ := h.labs i y hy
    exact ⟨(hm.block y.2 (blk_lt h1) (by rw [h2]; simp)).trans h1, (ho _ (blk_lt h1)).trans h2⟩
/-- A row of the table, its three cells. -/
theorem PAt.cells (h : PAt W base ρ t gp room mbs L) {u : Nat} (hu : u < L.length) : ∃ b c x, W.heap[gp]? = some (.cells #[.slice (some ⟨b, 0, none⟩) L.length c] 62 (0, 0)) ∧ mbs[u]? = some x ∧ L[u]? = some L[u] ∧ W.cell? ⟨b, u * 3, none⟩ = some (.pointer (some ⟨x.1, 0, none⟩)) ∧ W.cell? ⟨b, u * 3 + 1, none⟩ = some (.slice (some ⟨x.2, 0, none⟩) 1 1) ∧ W.cell? ⟨b, u * 3 + 2, none⟩ = some (.slice none 0 0) ∧ b < W.heap.size := by
  obtain ⟨v, hb, hr⟩ := h.box
  have hu' : u < mbs.length := by rw [h.len]; exact hu
  obtain ⟨b, c, rfl, _, hlt, _⟩ := Kd.R_form hr (by omega)
  obtain ⟨_, hc, hC⟩ := Kd.R_reads' hr
  obtain ⟨ad, cs, ha, hl, hk, hcell⟩ := Kd.C_get hC (0, 0) (u : Int) (by omega) (by omega)
  injection ha with ha
  subst ha
  rw [Int.toNat_natCast, List.getD_eq_getElem?_getD, List.getElem?_eq_getElem hu', Option.getD_some] at hk
  obtain rfl := kMb_K hk
  have h0 := hcell 0 _ rfl
  have h1 := hcell 1 _ rfl
  have h2 := hcell 2 _ rfl
  simp only [Int.toNat_natCast, kMb_sz, Nat.add_zero] at h0 h1 h2
  rw [Go.WideShapes.add_plain] at h0 h1 h2
  simp only [Nat.zero_add] at h0 h1 h2
  rw [h.len] at hb
  exact ⟨b, c, mbs[u], hb, List.getElem?_eq_getElem hu', List.getElem?_eq_getElem hu, h0, h1, h2, hlt⟩
theorem PAt.slice (h : PAt W base ρ t gp room mbs L) : ∃ A c, W.heap[gp]? = some (.cells #[.slice A L.length c] 62 (0, 0)) := by
  obtain ⟨v, hb, hr⟩ := h.box
  obtain ⟨A, c, rfl⟩ := Kd.R_slice hr
  rw [h.len] at hb
  exact ⟨A, c, hb⟩
set_option maxHeartbeats 4000000 in
set_option maxRecDepth 100000 in
theorem is_raw (gp : Nat) (A : Option Addr) (n c : Nat) (hb : W.heap[gp]? = some (.cells #[.slice A n c] 62 (0, 0))) (who : Int) (b : Bool) (he : decide (0 ≤ who ∧ who < (n : Int)) = b) :
    Calls Try.prog 22 #[.pointer (some ⟨gp, 0, none⟩), .int .i64 who] W fun e w' => e = .returned (.bool b) ∧ W = w' := by
  have r0 : W.cell? ⟨gp, 0, none⟩ = some (.slice A n c) := blk_cell hb 0
  clear hb
  by_cases h0 : 0 ≤ who
  · have d0 : decide (who ≥ 0) = true := decide_eq_true h0
    by_cases h1 : who < (n : Int)
    · have d1 : decide (who < (n : Int)) = true := decide_eq_true h1
      obtain rfl : b = true := by rw [← he]; exact decide_eq_true ⟨h0, h1⟩
      clear he
      go_enter Try.func22, Try.ntmps22
      go_wp2
      go_ret
      exact ⟨rfl, rfl⟩
    · have d1 : decide (who < (n : Int)) = false := decide_eq_false h1
      obtain rfl : b = false := by rw [← he]; exact decide_eq_false (fun h => h1 h.2)
      clear he
      go_enter Try.func22, Try.ntmps22
      go_wp2
      go_ret
      exact ⟨rfl, rfl⟩
  · have d0 : decide (who ≥ 0) = false := decide_eq_false h0
    obtain rfl : b = false := by rw [← he]; exact decide_eq_false (fun h => h0 h.1)
    clear he
    go_enter Try.func22, Try.ntmps22
    go_wp2
    go_ret
    exact ⟨rfl, rfl⟩
theorem PAt.is (h : PAt W base ρ t gp room mbs L) (who : Int) (b : Bool) (he : decide (0 ≤ who ∧ who < (L.length : Int)) = b) : Calls Try.prog 22 #[.pointer (some ⟨gp, 0, none⟩), .int .i64 who] W fun e w' => e = .returned (.bool b) ∧ W = w' := by
  obtain ⟨A, c, hb⟩ := h.slice
  exact is_raw gp A _ c hb who b he
def lenL (L : List (List Msg)) (who : Int) : Int := if 0 ≤ who ∧ who < (L.length : Int) then ((L.getD who.toNat []).length : Int) else 0
set_option maxHeartbeats 4000000 in
set_option maxRecDepth 100000 in
theorem PAt.len_calls (h : PAt W base ρ t gp room mbs L) (who : Int) : Calls Try.prog 13 #[.pointer (some ⟨gp, 0, none⟩), .int .i64 who] W fun e w' => e = .returned (.int .i64 (lenL L who)) ∧ W = w' := by
  by_cases hw : 0 ≤ who ∧ who < (L.length : Int)
  · obtain ⟨u, rfl⟩ := Int.eq_ofNat_of_zero_le hw.1
    have hu : u < L.length := by omega
    obtain ⟨b, c, x, hb, hx, hl, x0, _, _, _⟩ := h.cells hu
    have r0 : W.cell? ⟨gp, 0, none⟩ = some (.slice (some ⟨b, 0, none⟩) L.length c) := blk_cell hb 0
    have HI := Aside0.mk (h.is (u : Int) true (decide_eq_true hw))
    obtain ⟨v, fr, dr, buf, hq⟩ := h.qs u x _ hx hl
    have HQ := Aside0.mk hq.len
    have HE := Aside0.mk (show lenL L (u : Int) = (L[u].length : Int) by unfold lenL; rw [if_pos hw, Int.toNat_natCast, List.getD_eq_getElem?_getD, hl]; rfl)
    clear hq h hb hw hx hl
    generalize L[u] = l at *
    go_enter Try.func13, Try.ntmps13
    go_wp2_with (first
      | (go_at_call 22; (with_reducible refine HI.out.mono ?_); rintro e w1 ⟨rfl, rfl⟩)
      | (go_at_call 27; (with_reducible refine HQ.out.mono ?_); rintro e w1 ⟨rfl, rfl⟩))
    go_ret
    exact ⟨by rw [HE.out]; rfl, rfl⟩
  · have HI := Aside0.mk (h.is who false (decide_eq_false hw))
    have HE := Aside0.mk (show lenL L who = 0 from if_neg hw)
    clear h hw
    go_enter Try.func13, Try.ntmps13
    go_wp2_with (go_at_call 22; (with_reducible refine HI.out.mono ?_); rintro e w1 ⟨rfl, rfl⟩)
    go_ret
    exact ⟨by rw [HE.out]; rfl, rfl⟩
end
end Go.Proofs.Ytclhddldbfdfdaa.PoW
namespace Go.Proofs.Ytclhddldbfdfdaa.PoW
open Go.RowKit Go.Proofs.YtclhddldbfdfdaaW.PrintWords Go.Proofs.YtclhddldbfdfdaaW.PrintMore Go.Proofs.YtclhddldbfdfdaaW.PrintLast
set_option linter.unusedVariables false
set_option linter.unusedSimpArgs false
section
variable {W W' : World} {base : Nat} {ρ ρ' : Own} {t gp room : Nat} {mbs : List (Nat × Nat)} {L : List (List Msg)}
def takeL (L : List (List Msg)) (who : Int) : Msg × Bool × List (List Msg) :=
  if 0 ≤ who ∧ who < (L.length : Int) then (match L.getD who.toNat [] with | [] => (z, false, L) | x :: l => (x, true, L.set who.toNat l)) else (z, false, L)
def Agree (W : World) (ρ ρ' : Own) : Prop := ∀ k, k < W.heap.size → ρ' k = ρ k
theorem Agree.refl (W : World) (ρ : Own) : Agree W ρ ρ := fun _ _ => rfl
theorem Agree.upd {W W1 : World} {ρ ρ1 : Own} (h : Agree W ρ ρ1) (hz : W.heap.size ≤ W1.heap.size) (t : Nat × Nat) : Agree W ρ (upd ρ1 W1.heap.size t) := fun k hk => (upd_lt (by omega)).trans (h k hk)
theorem Agree.trans {W W1 : World} {ρ ρ1 ρ2 : Own} (h : Agree W ρ ρ1) (h2 : Agree W1 ρ1 ρ2) (hz : W.heap.size ≤ W1.heap.size) : Agree W ρ ρ2 := fun k hk => (h2 k (by omega)).trans (h k hk)
theorem PAt.below (h : PAt W base ρ t gp room mbs L) (hb : Below W.heap.size W W') (ho : Agree W ρ ρ') : PAt W' base ρ' t gp room mbs L := h.move (fun k _ hk => hb.block k hk) ho
theorem PAt.mod (h : PAt W base ρ t gp room mbs L) {S : Nat → Prop} (m : Mod W W' S) (hS : ∀ k, k < W.heap.size → S k → ρ k ≠ none ∧ ∀ i, ρ k ≠ some (t, i)) (ho : Agree W ρ ρ') : PAt W' base ρ' t gp room mbs L :=
  h.move (fun k hk hlt => m.block k hlt (fun hs => by
    obtain ⟨h1, h2⟩ := hS k hlt hs
    rcases hk with hk | ⟨i, hk⟩
    · exact h1 hk
    · exact h2 i hk)) ho
theorem Mod.set2 {W W' : World} {S : Nat → Prop} (h : Mod W W' S) {a : Nat} (ha : S a ∨ W.heap.size ≤ a) (u v : Value) : Mod W ((W'.setCell ⟨a, 0, none⟩ u).setCell ⟨a, 1, none⟩ v) S := (h.set ⟨a, 0, none⟩ u ha).set ⟨a, 1, none⟩ v ha
theorem junk_ne {ρ : Own} {n t i : Nat} (ht : 0 < t) : ¬ (upd ρ n (0, 0) n = some (t, i)) := fun e => by
  rw [upd_ge (Nat.le_refl _)] at e
  injection e with e
  injection e with e
  omega
theorem junk_out {ρ : Own} {n t : Nat} (ht : 0 < t) : upd ρ n (0, 0) n ≠ none ∧ ∀ i, upd ρ n (0, 0) n ≠ some (t, i) := ⟨by rw [upd_ge (Nat.le_refl _)]; simp, fun i => junk_ne ht⟩
def TakePost (W : World) (base : Nat) (ρ : Own) (t gp room : Nat) (mbs : List (Nat × Nat)) (L : List (List Msg)) (who : Int) (e : Ending) (W' : World) : Prop :=
  e = .returned (.tuple #[.agg #[.int .i64 (takeL L who).1.1, .string (takeL L who).1.2], .bool (takeL L who).2.1]) ∧ ∃ ρ', Agree W ρ ρ' ∧ PAt W' base ρ' t gp room mbs (takeL L who).2.2 ∧ Mod W W' (fun k => ∃ i, ρ k = some (t, i))
set_option maxHeartbeats 4000000 in
set_option maxRecDepth 100000 in
theorem PAt.take_calls (h : PAt W base ρ t gp room mbs L) (who : Int) : Calls Try.prog 11 #[.pointer (some ⟨gp, 0, none⟩), .int .i64 who] W (TakePost W base ρ t gp room mbs L who) := by
  have HX := Aside0.mk (show ∀ W1, W.alloc (.cells #[.int .i64 0, .string ⟨#[]⟩] 37) = W1 → PAt W1 base (upd ρ W.heap.size (0, 0)) t gp room mbs L ∧ Below W.heap.size W W1 ∧ W1.heap[W.heap.size]? = some (.cells #[.int .i64 0, .string ⟨#[]⟩] 37 (0, 0)) ∧ W1.heap.size = W.heap.size + 1 from fun W1 e => by
    subst e
    have hb := below_alloc (Below.refl W.heap.size W) (.cells #[.int .i64 0, .string ⟨#[]⟩] 37)
    exact ⟨h.below hb (fun k hk => upd_lt hk), hb, heap_alloc_new W _, by simp⟩)
  have ht := h.tag
  by_cases hw : 0 ≤ who ∧ who < (L.length : Int)
  · obtain ⟨u, rfl⟩ := Int.eq_ofNat_of_zero_le hw.1
    have hu : u < L.length := by omega
    have hgd : L.getD u [] = L[u] := by rw [List.getD_eq_getElem?_getD, List.getElem?_eq_getElem hu]; rfl
    have HW := Aside0.mk (decide_eq_true hw)
    rcases hl : L[u] with _ | ⟨x, l⟩
    · have HE := Aside0.mk (show takeL L (u : Int) = (z, false, L) by unfold takeL; rw [if_pos hw, Int.toNat_natCast, hgd, hl])
      have HLu := Aside0.mk (show L[u]? = some [] by rw [List.getElem?_eq_getElem hu, hl])
      clear hl hgd hw h
      go_enter Try.func11, Try.ntmps11
      go_wp2_with (go_at_call 22; (with_reducible refine (PAt.is (HX.out _ rfl).1 (u : Int) true HW.out).mono ?_); rintro e w1 ⟨rfl, hW1⟩; obtain ⟨hp, hb, hx, hz⟩ := HX.out w1 hW1; obtain ⟨bt, ct, xm, hbx, hxm, _, x0, _, _, _⟩ := hp.cells hu; have r0 : w1.cell? ⟨gp, 0, none⟩ = some (.slice (some ⟨bt, 0, none⟩) L.length ct) := blk_cell hbx 0; have HP := Aside0.mk hp; have HB := Aside0.mk hb; have HXX := Aside0.mk hx; have HZ := Aside0.mk hz; have HQ := Aside0.mk (pop_nil (hp.qs u xm [] hxm HLu.out)); clear hp hb hx hz hbx hxm HX hW1)
      go_wp2_with (go_at_call 26; (with_reducible refine HQ.out.mono ?_); rintro e w2 ⟨rfl, hb2⟩; have hx2 := (hb2.block W.heap.size (by have := HZ.out; omega)).trans HXX.out; have m0 : w2.cell? ⟨W.heap.size, 0, none⟩ = some (.int .i64 0) := blk_cell hx2 0; have m1 : w2.cell? ⟨W.heap.size, 1, none⟩ = some (.string ⟨#[]⟩) := blk_cell hx2 1; have g0 : w2.frozen? ⟨W.heap.size, 0, none⟩ = false := blk_frozen hx2 0; have g1 : w2.frozen? ⟨W.heap.size, 1, none⟩ = false := blk_frozen hx2 1; have HB2 := Aside0.mk hb2; clear hb2 hx2)
      exact bodyPost_ret (v := .tuple #[.agg #[.int .i64 0, .string ⟨#[]⟩], .bool false]) (by simp [results, Try.results11, go_sem, m0, m1]) rfl ⟨by rw [HE.out]; rfl, upd ρ W.heap.size (0, 0), fun k hk => upd_lt hk, by
        rw [HE.out]
        refine HP.out.mod (S := fun k => k = W.heap.size) ((Mod.of_below HB2.out (fun k => k = W.heap.size)).set2 (a := W.heap.size) (.inl rfl) _ _) (fun k _ hk => ?_) (Agree.refl _ _)
        subst hk
        exact junk_out ht, (Mod.of_below (below_step HB.out HB2.out) _).set2 (.inr (Nat.le_refl _)) _ _⟩
    · have HE := Aside0.mk (show takeL L (u : Int) = (x, true, L.set u l) by unfold takeL; rw [if_pos hw, Int.toNat_natCast, hgd, hl])
      have HLu := Aside0.mk (show L[u]? = some (x :: l) by rw [List.getElem?_eq_getElem hu, hl])
      clear hl hgd hw h
      go_enter Try.func11, Try.ntmps11
      go_wp2_with (go_at_call 22; (with_reducible refine (PAt.is (HX.out _ rfl).1 (u : Int) true HW.out).mono ?_); rintro e w1 ⟨rfl, hW1⟩; obtain ⟨hp, hb, hx, hz⟩ := HX.out w1 hW1; obtain ⟨bt, ct, xm, hbx, hxm, _, x0, _, _, _⟩ := hp.cells hu; have r0 : w1.cell? ⟨gp, 0, none⟩ = some (.slice (some ⟨bt, 0, none⟩) L.length ct) := blk_cell hbx 0; have HP := Aside0.mk hp; have HB := Aside0.mk hb; have HXX := Aside0.mk hx; have HZ := Aside0.mk hz; have HXm := Aside0.mk hxm; have HQ := Aside0.mk (pop_calls (hp.qs u xm (x :: l) hxm HLu.out)); clear hp hb hx hz hbx hxm HX hW1)
      go_wp2_with (go_at_call 26; (with_reducible refine HQ.out.mono ?_); rintro e w2 ⟨rfl, hq2, hm2⟩; have hx2 := (hm2.block W.heap.size (by have := HZ.out; omega) (junk_ne ht)).trans HXX.out; have m0 : w2.cell? ⟨W.heap.size, 0, none⟩ = some (.int .i64 0) := blk_cell hx2 0; have m1 : w2.cell? ⟨W.heap.size, 1, none⟩ = some (.string ⟨#[]⟩) := blk_cell hx2 1; have g0 : w2.frozen? ⟨W.heap.size, 0, none⟩ = false := blk_frozen hx2 0; have g1 : w2.frozen? ⟨W.heap.size, 1, none⟩ = false := blk_frozen hx2 1; have HQ2 := Aside0.mk hq2; have HM2 := Aside0.mk hm2; clear hq2 hm2 hx2)
      exact bodyPost_ret (v := .tuple #[.agg #[.int .i64 x.1, .string x.2], .bool true]) (by simp [results, Try.results11, go_sem, m0, m1]) rfl ⟨by rw [HE.out], upd ρ W.heap.size (0, 0), fun k hk => upd_lt hk, by
        rw [HE.out]
        have h2 : PAt w2 base (upd ρ W.heap.size (0, 0)) t gp room mbs (L.set u l) := HP.out.turn HXm.out HQ2.out HM2.out (Agree.refl _ _)
        refine h2.mod (S := fun k => k = W.heap.size) ((Mod.refl w2 (fun k => k = W.heap.size)).set2 (a := W.heap.size) (.inl rfl) _ _) (fun k _ hk => ?_) (Agree.refl _ _)
        subst hk
        exact junk_out ht, by
        have m1 : Mod W w2 (fun k => ∃ i, ρ k = some (t, i)) := (Mod.of_below HB.out (fun k => ∃ i, ρ k = some (t, i))).trans (HM2.out.mono (fun k hk h => by
          rcases Nat.lt_or_ge k W.heap.size with h1 | h1
          · exact .inl ⟨u + 1, (upd_lt h1).symm.trans h⟩
          · exact .inr h1))
        exact m1.set2 (.inr (Nat.le_refl _)) _ _⟩
  · have HW := Aside0.mk (decide_eq_false hw)
    have HE := Aside0.mk (show takeL L who = (z, false, L) from if_neg hw)
    clear hw h
    go_enter Try.func11, Try.ntmps11
    go_wp2_with (go_at_call 22; (with_reducible refine (PAt.is (HX.out _ rfl).1 who false HW.out).mono ?_); rintro e w1 ⟨rfl, hW1⟩; obtain ⟨hp, hb, hx, hz⟩ := HX.out w1 hW1; have m0 : w1.cell? ⟨W.heap.size, 0, none⟩ = some (.int .i64 0) := blk_cell hx 0; have m1 : w1.cell? ⟨W.heap.size, 1, none⟩ = some (.string ⟨#[]⟩) := blk_cell hx 1; have g0 : w1.frozen? ⟨W.heap.size, 0, none⟩ = false := blk_frozen hx 0; have g1 : w1.frozen? ⟨W.heap.size, 1, none⟩ = false := blk_frozen hx 1; have HP := Aside0.mk hp; have HB := Aside0.mk hb; clear hp hb hx hz HX hW1)
    exact bodyPost_ret (v := .tuple #[.agg #[.int .i64 0, .string ⟨#[]⟩], .bool false]) (by simp [results, Try.results11, go_sem, m0, m1]) rfl ⟨by rw [HE.out]; rfl, upd ρ W.heap.size (0, 0), fun k hk => upd_lt hk, by
        rw [HE.out]
        refine HP.out.mod (S := fun k => k = W.heap.size) ((Mod.refl w1 (fun k => k = W.heap.size)).set2 (a := W.heap.size) (.inl rfl) _ _) (fun k _ hk => ?_) (Agree.refl _ _)
        subst hk
        exact junk_out ht, (Mod.of_below HB.out _).set2 (.inr (Nat.le_refl _)) _ _⟩
/-- What one more mailbox leaves. -/
theorem PAt.row (h : PAt W base ρ t gp room mbs L) {W2 : World} (hb : Below W.heap.size W W2) {ρ3 : Own} (ho : Agree W ρ ρ3) : ∃ A c, W2.heap[gp]? = some (.cells #[.slice A L.length c] 62 (0, 0)) ∧ Kd.R kMb 69 W2 base (fun k => ρ3 k = some (t, 0) ∧ k ≠ gp) (.slice A L.length c) mbs := by
  obtain ⟨v, hbx, hr⟩ := h.box
  obtain ⟨A, c, rfl⟩ := Kd.R_slice hr
  rw [h.len] at hbx hr
  exact ⟨A, c, (hb.block gp (blk_lt hbx)).trans hbx, Kd.R_mono (Kd.R_below (Kd.R_bound hr) hb) (fun k hk => ⟨(ho k hk.2.2.1).trans hk.1.1, hk.1.2⟩)⟩
theorem PAt.added (h : PAt W base ρ t gp room mbs L) {W2 : World} (hb : Below W.heap.size W W2) {ρ2 : Own} (ho : Agree W ρ ρ2) {g s : Nat} {l : List Msg} (hq : QAt W2 base (fun k => ρ2 k = some (t, L.length + 1)) g room l) (hs : W2.heap[s]? = some (.cells #[.int .i64 (2 * (L.length : Int) + 1)] 3 (0, 0)) ∧ ρ2 s = none)
    {w3 : World} {v1 u : Value} {row : Option Nat} (hbx : W2.heap[gp]? = some (.cells #[u] 62 (0, 0))) (hR : Kd.R kMb 69 w3 base (fun k => upd ρ2 W2.heap.size (t, 0) k = some (t, 0) ∧ k ≠ gp) v1 (mbs ++ [(g, s)])) (hg : W2.grownBy w3 row) (hrow : ∀ k, row = some k → upd ρ2 W2.heap.size (t, 0) k = some (t, 0) ∧ k ≠ gp) (hf : L.length < 16) :
    PAt (w3.setCell ⟨gp, 0, none⟩ v1) base (upd ρ2 W2.heap.size (t, 0)) t gp room (mbs ++ [(g, s)]) (L ++ [l]) := by
  have hgl := blk_lt hbx
  have hm : Mod W2 (w3.setCell ⟨gp, 0, none⟩ v1) (fun k => ρ2 k = some (t, 0)) := by
    obtain ⟨v, hb0, _⟩ := h.box
    refine ((Mod.refl W2 _).grown hg (fun k hk => ?_)).set _ _ (.inl ((ho gp (blk_lt hb0)).trans h.okg))
    rcases Nat.lt_or_ge k W2.heap.size with h1 | h1
    · exact .inl ((upd_lt h1).symm.trans (hrow k hk).1)
    · exact .inr h1
  have hgo : ρ2 gp = some (t, 0) := by
    obtain ⟨v, hb0, _⟩ := h.box
    exact (ho gp (blk_lt hb0)).trans h.okg
  have h2 := h.below hb ho
  refine ⟨⟨v1, ?_, Kd.R_far hR (fun k hk => hk.2) _⟩, (upd_lt hgl).trans hgo, by simp [h.len], fun i y l' hy hl => ?_, fun i y hy => ?_, by simp; omega, h.tag⟩
  · have h3 : w3.heap[gp]? = some (.cells #[u] 62 (0, 0)) := (hg.block gp hgl (fun e => (hrow gp e.symm).2 rfl)).trans hbx
    exact blk_set h3 0 v1
  · rcases Nat.lt_or_ge i L.length with hi | hi
    · rw [List.getElem?_append_left hi] at hl
      rw [List.getElem?_append_left (by rw [h.len]; exact hi)] at hy
      exact (h2.qs i y l' hy hl).move (fun k hk hlt => hm.block k hlt (by rw [hk]; simp)) (fun k hk hlt => (upd_lt hlt).trans hk)
    · have hi2 : i = L.length := by
        have := (List.getElem?_eq_some_iff.1 hl).1
        simp at this
        omega
      subst hi2
      rw [List.getElem?_append_right (Nat.le_refl _), Nat.sub_self] at hl
      rw [List.getElem?_append_right (by rw [h.len]; exact Nat.le_refl _), h.len, Nat.sub_self] at hy
      obtain rfl := Option.some.inj hl
      obtain rfl := Option.some.inj hy
      exact hq.move (fun k hk hlt => hm.block k hlt (by rw [hk]; simp)) (fun k hk hlt => (upd_lt hlt).trans hk)
  · rcases Nat.lt_or_ge i L.length with hi | hi
    · rw [List.getElem?_append_left (by rw [h.len]; exact hi)] at hy
      obtain ⟨h3, h4⟩ := h2.labs i y hy
      exact ⟨(hm.block y.2 (blk_lt h3) (by rw [h4]; simp)).trans h3, (upd_lt (blk_lt h3)).trans h4⟩
    · have hi2 : i = L.length := by
        have := (List.getElem?_eq_some_iff.1 hy).1
        simp [h.len] at this
        omega
      subst hi2
      rw [List.getElem?_append_right (by rw [h.len]; exact Nat.le_refl _), h.len, Nat.sub_self] at hy
      obtain rfl := Option.some.inj hy
      exact ⟨(hm.block s (blk_lt hs.1) (by rw [hs.2]; simp)).trans hs.1, (upd_lt (blk_lt hs.1)).trans hs.2⟩
end
end Go.Proofs.Ytclhddldbfdfdaa.PoW
namespace Go.Proofs.Ytclhddldbfdfdaa.PoW
open Go.RowKit Go.Proofs.YtclhddldbfdfdaaW.PrintWords Go.Proofs.YtclhddldbfdfdaaW.PrintMore Go.Proofs.YtclhddldbfdfdaaW.PrintLast
set_option linter.unusedVariables false
set_option linter.unusedSimpArgs false
theorem infoMb : (Try.prog.info? 69).map (fun i => (i.zero, i.size, i.bytes)) = some (some (.agg #[.pointer none, .slice none 0 0, .slice none 0 0]), 3, 56) := by kernel_rfl
def updN (ρ : Own) (n : Nat) : Own := fun k => if k < n then ρ k else none
theorem updN_lt {ρ : Own} {n k : Nat} (h : k < n) : updN ρ n k = ρ k := if_pos h
theorem updN_ge {ρ : Own} {n k : Nat} (h : n ≤ k) : updN ρ n k = none := if_neg (by omega)
section
variable {W : World} {ρ : Own} {t : Nat}
/-- Ahead of the append: the queue, its label's block. -/
structure NP (wr W2 : World) (base : Nat) (ρ' : Own) (t gp room : Nat) (mbs : List (Nat × Nat)) (L : List (List Msg)) (g s : Nat) (A : Option Addr) (c : Nat) (l : List Msg) : Prop where
  p : PAt wr base ρ' t gp room mbs L
  below : Below wr.heap.size wr W2
  ag : ∃ ρ2, Agree wr ρ' ρ2 ∧ QAt W2 base (fun k => ρ2 k = some (t, L.length + 1)) g room l ∧ (W2.heap[s]? = some (.cells #[.int .i64 (2 * (L.length : Int) + 1)] 3 (0, 0)) ∧ ρ2 s = none)
  box : W2.heap[gp]? = some (.cells #[.slice A L.length c] 62 (0, 0))
  hrow : ∀ ρ3, Agree wr ρ' ρ3 → Kd.R kMb 69 W2 base (fun k => ρ3 k = some (t, 0) ∧ k ≠ gp) (.slice A L.length c) mbs
theorem NP.new {wr : World} {base : Nat} {ρ' : Own} {gp room : Nat} {mbs : List (Nat × Nat)} {L : List (List Msg)} (h : PAt wr base ρ' t gp room mbs L) (h0 : 0 < room) (h1 : room ≤ 64) {A : Option Addr} {c : Nat} (hb0 : wr.heap[gp]? = some (.cells #[.slice A L.length c] 62 (0, 0))) :
    NP wr ((wr.alloc (.cells #[.int .i64 (room : Int), .slice none 0 0, .int .i64 0, .int .i64 0, .int .i64 0] 85 (0, 0))).alloc (.cells #[.int .i64 (2 * (L.length : Int) + 1)] 3 (0, 0))) base ρ' t gp room mbs L wr.heap.size (wr.heap.size + 1) A c [] := by
  have hb := below_alloc (below_alloc (Below.refl wr.heap.size wr) (.cells #[.int .i64 (room : Int), .slice none 0 0, .int .i64 0, .int .i64 0, .int .i64 0] 85 (0, 0))) (.cells #[.int .i64 (2 * (L.length : Int) + 1)] 3 (0, 0))
  have hn := heap_alloc_new (wr.alloc (.cells #[.int .i64 (room : Int), .slice none 0 0, .int .i64 0, .int .i64 0, .int .i64 0] 85 (0, 0))) (.cells #[.int .i64 (2 * (L.length : Int) + 1)] 3 (0, 0))
  rw [World.size_alloc] at hn
  refine ⟨h, hb, ⟨updN (upd ρ' wr.heap.size (t, L.length + 1)) (wr.heap.size + 1), fun k hk => (updN_lt (by omega)).trans (upd_lt hk), ?_, hn, updN_ge (Nat.le_refl _)⟩, ?_, fun ρ3 ho => ?_⟩
  · have := qat_new wr base (fun k => updN (upd ρ' wr.heap.size (t, L.length + 1)) (wr.heap.size + 1) k = some (t, L.length + 1)) room h0 h1 (by show updN _ _ _ = _; rw [updN_lt (by omega), upd_ge (Nat.le_refl _)])
    exact this.move (fun k _ hk => (below_alloc (Below.refl _ _) _).block k hk) (fun _ h _ => h)
  · exact (hb.block gp (blk_lt hb0)).trans hb0
  · obtain ⟨A', c', hx, hr⟩ := h.row hb ho
    rw [(hb.block gp (blk_lt hb0)).trans hb0] at hx
    simp only [Option.some.injEq, Obj.cells.injEq, Array.mk.injEq, List.cons.injEq, Value.slice.injEq, and_true, true_and] at hx
    obtain ⟨rfl, rfl⟩ := hx
    exact hr

set_option maxHeartbeats 4000000 in
set_option maxRecDepth 100000 in
theorem pnew_not (users room : Int) (h : ¬ (1 ≤ users ∧ users ≤ 16 ∧ 1 ≤ room ∧ room ≤ 64)) (w : World) :
    Calls Try.prog 8 #[.int .i64 users, .int .i64 room] w fun e w' => e = .returned (.tuple #[.pointer none, .int .i64 1]) ∧ w = w' := by
  by_cases h0 : users < 1
  · have d0 : decide (users < 1) = true := decide_eq_true h0
    clear h
    go_enter Try.func8, Try.ntmps8
    go_wp2
    go_ret2
    exact ⟨rfl, rfl⟩
  · have d0 : decide (users < 1) = false := decide_eq_false h0
    by_cases h1 : 16 < users
    · have d1 : decide (users > 16) = true := decide_eq_true h1
      have d2 : decide (16 < users) = true := decide_eq_true h1
      clear h
      go_enter Try.func8, Try.ntmps8
      go_wp2
      go_ret2
      exact ⟨rfl, rfl⟩
    · have d1 : decide (users > 16) = false := decide_eq_false h1
      have d2 : decide (16 < users) = false := decide_eq_false h1
      by_cases h2 : room < 1
      · have d3 : decide (room < 1) = true := decide_eq_true h2
        clear h
        go_enter Try.func8, Try.ntmps8
        go_wp2
        go_ret2
        exact ⟨rfl, rfl⟩
      · have d3 : decide (room < 1) = false := decide_eq_false h2
        have d4 : decide (room > 64) = true := decide_eq_true (by omega)
        have d5 : decide (64 < room) = true := decide_eq_true (by omega)
        clear h
        go_enter Try.func8, Try.ntmps8
        go_wp2
        go_ret2
        exact ⟨rfl, rfl⟩
def NewPost (W : World) (ρ : Own) (t room : Nat) (L : List (List Msg)) (e : Ending) (W' : World) : Prop := ∃ gp mbs ρ', e = .returned (.tuple #[.pointer (some ⟨gp, 0, none⟩), .int .i64 0]) ∧ W.heap.size ≤ gp ∧ Agree W ρ ρ' ∧ PAt W' W.heap.size ρ' t gp room mbs L ∧ Below W.heap.size W W'
set_option maxHeartbeats 4000000 in
set_option maxRecDepth 100000 in
theorem pnew_calls (users room : Nat) (h0 : 1 ≤ users) (h1 : users ≤ 16) (h2 : 1 ≤ room) (h3 : room ≤ 64) (ht : 0 < t) :
    Calls Try.prog 8 #[.int .i64 (users : Int), .int .i64 (room : Int)] W (NewPost W ρ t room (List.replicate users [])) := by
  have d0 : decide ((users : Int) < 1) = false := decide_eq_false (by omega)
  have d1 : decide ((users : Int) > 16) = false := decide_eq_false (by omega)
  have d2 : decide (16 < (users : Int)) = false := decide_eq_false (by omega)
  have d3 : decide ((room : Int) < 1) = false := decide_eq_false (by omega)
  have d4 : decide ((room : Int) > 64) = false := decide_eq_false (by omega)
  have d5 : decide (64 < (room : Int)) = false := decide_eq_false (by omega)
  have HN := Aside0.mk (fun w => qnew_calls (room : Int) (by omega) (by omega) w)
  have HI := Aside0.mk (show ∀ W1, W.alloc (.cells #[.slice none 0 0] 62) = W1 → PAt W1 W.heap.size (upd ρ W.heap.size (t, 0)) t W.heap.size room [] [] ∧ Below W.heap.size W W1 from fun W1 e => by
    subst e
    exact ⟨⟨⟨_, heap_alloc_new W _, Kd.R_nil _ _ _ _ _⟩, upd_ge (Nat.le_refl _), rfl, by simp, by simp, by simp, ht⟩, below_alloc (Below.refl _ _) _⟩)
  go_enter Try.func8, Try.ntmps8
  go_wp2
  generalize hW1 : World.alloc W _ = W1
  obtain ⟨hp, hb⟩ := HI.out W1 hW1
  have HP := Aside0.mk hp
  have HB := Aside0.mk hb
  clear hp hb HI hW1
  go_loopw [27] (fun t27 wr => ∃ (L : List (List Msg)) (mbs : List (Nat × Nat)) (ρ' : Own), L.length ≤ users ∧ t27 = .int .i64 (L.length : Int) ∧ Aside0 (L = List.replicate L.length []) ∧ Aside0 (Agree W ρ ρ') ∧ Aside0 (PAt wr W.heap.size ρ' t W.heap.size room mbs L) ∧ Aside0 (Below W.heap.size W wr)) (fun i _ => users - (intOf i).toNat)
  case atStart => exact ⟨[], [], _, Nat.zero_le _, rfl, Aside0.mk rfl, Aside0.mk (fun k hk => upd_lt hk), HP, HB⟩
  case round =>
    clear HP HB
    obtain ⟨L, mbs, ρ', hk, rfl, HLr, HA, HP, HB⟩ := hrel
    by_cases hlt : L.length < users
    · have i1 : (L.length : Int) < (users : Int) := by omega
      obtain ⟨A, c, hb0⟩ := HP.out.slice
      have HNP := Aside0.mk (NP.new HP.out h2 h3 hb0)
      have r0 : (wr.alloc (.cells #[.int .i64 (room : Int), .slice none 0 0, .int .i64 0, .int .i64 0, .int .i64 0] 85 (0, 0))).cell? ⟨W.heap.size, 0, none⟩ = some (.slice A L.length c) := by
        exact (World.cell?_alloc_lt _ _ ⟨W.heap.size, 0, none⟩ (blk_lt hb0)).trans (blk_cell hb0 0)
      have hgl := blk_lt hb0
      have e1 : wrap64 (2 * (L.length : Int)) = 2 * (L.length : Int) := by unfold wrap64; omega
      have e2 : wrap64 (2 * (L.length : Int) + 1) = 2 * (L.length : Int) + 1 := by unfold wrap64; omega
      have hz : wr.heap.size = wr.heap.size := rfl
      clear hb0 hz
      go_wp2_with (first
        | (go_at_call 21; (with_reducible refine (HN.out _).mono ?_); rintro e w1 ⟨rfl, hw1⟩; rw [hw1] at HNP r0; have hz1 : w1.heap.size = wr.heap.size + 1 := (by rw [← hw1]; simp); rw [← hz1] at HNP; clear hw1 hz1)
        | (at_builtin; have eW : (World.alloc w1 (.cells #[.int .i64 (2 * (L.length : Int) + 1)] 3)).heap.size = w1.heap.size + 1 := by simp
           obtain ⟨ρ2, ha2, hq2, hs2⟩ := HNP.out.ag
           have HQ2 := Aside0.mk hq2
           have HS2 := Aside0.mk hs2
           have HA2 := Aside0.mk ha2
           have hgl2 : W.heap.size < (World.alloc w1 (.cells #[.int .i64 (2 * (L.length : Int) + 1)] 3)).heap.size := Nat.lt_of_lt_of_le hgl HNP.out.below.size
           clear hq2 hs2 ha2
           refine Kd.R_append kMb (w0 := W) W.heap.size rfl (.tmp 39) (.tmp 47) 60 69 (.agg #[.pointer none, .slice none 0 0, .slice none 0 0]) 56 rfl Try.underlying60 infoMb rfl (by decide) (by decide) (.slice A L.length c) mbs (wr.heap.size, w1.heap.size) (encMb (wr.heap.size, w1.heap.size)) (fun q => upd ρ2 (World.alloc w1 (.cells #[.int .i64 (2 * (L.length : Int) + 1)] 3)).heap.size (t, 0) q = some (t, 0) ∧ q ≠ W.heap.size) (fun _ => False) rfl (by rw [eW]; rfl) (kMb_M (kMb_mk _ _)) (fun _ h => h.elim) (fun q hq => ⟨upd_ge hq, by omega⟩) (HNP.out.hrow _ (HA2.out.upd HNP.out.below.size _)) (below_step HB.out HNP.out.below) (Nat.le_of_lt hgl2) (by have := HP.out.len; omega) ?_
           intro v1 w3 hR3 hb3 hg3 hat3
           obtain ⟨A3, c3, e3⟩ := Kd.R_slice hR3
           subst e3
           have hx3 := (hg3.block W.heap.size hgl2 (fun e => by have := (HNP.out.hrow _ (HA2.out.upd HNP.out.below.size (t, 0))).1 _ e.symm; exact this.2 rfl)).trans HNP.out.box
           have y0 : w3.cell? ⟨W.heap.size, 0, none⟩ = some (.slice A L.length c) := blk_cell hx3 0
           have z0 : w3.frozen? ⟨W.heap.size, 0, none⟩ = false := blk_frozen hx3 0
           have HR3 := Aside0.mk hR3
           have HB3 := Aside0.mk hb3
           have HG3 := Aside0.mk hg3
           clear hR3 hb3 hg3 hat3 hx3))
      have h4 := PAt.added HNP.out.p HNP.out.below HA2.out HQ2.out HS2.out HNP.out.box HR3.out HG3.out (fun k hk => (HNP.out.hrow _ (HA2.out.upd HNP.out.below.size (t, 0))).1 k hk) (by omega)
      have hle : Below W.heap.size W (w3.setCell ⟨W.heap.size, 0, none⟩ (.slice A3 (mbs ++ [(wr.heap.size, w1.heap.size)]).length c3)) := HB3.out.setCell (p := ⟨W.heap.size, 0, none⟩) (Nat.le_refl _) _
      have hA4 := HA.out.trans (HA2.out.upd HNP.out.below.size (t, 0)) HB.out.size
      rw [show (mbs ++ [(wr.heap.size, w1.heap.size)]).length = mbs.length + 1 from by simp] at h4 hle
      exact ⟨⟨L ++ [[]], _, _, by simp; omega, by simp, Aside0.mk (by rw [List.length_append, List.length_singleton, List.replicate_succ', ← HLr.out]), Aside0.mk hA4, Aside0.mk h4, Aside0.mk hle⟩, by simp [intOf]; omega⟩
    · have i1 : ¬ ((L.length : Int) < (users : Int)) := by omega
      have HE := Aside0.mk (show L = List.replicate users [] by have h5 : L.length = users := by omega
                                                                rw [← h5]; exact HLr.out)
      go_wp2
      go_ret2
      exact ⟨W.heap.size, mbs, ρ', rfl, Nat.le_refl _, HA.out, by rw [← HE.out]; exact HP.out, HB.out⟩
end
end Go.Proofs.Ytclhddldbfdfdaa.PoW
namespace Go.Proofs.Ytclhddldbfdfdaa.PoW
open Go.RowKit Go.Proofs.YtclhddldbfdfdaaW.PrintWords Go.Proofs.YtclhddldbfdfdaaW.PrintMore Go.Proofs.YtclhddldbfdfdaaW.PrintLast Go.Proofs.Ytclhddldbfdfdaa.LabF Go.Proofs.Ytclhddldbfdfdaa.SetF
set_option linter.unusedVariables false
set_option linter.unusedSimpArgs false
/-- A list of numbers that can be read. -/
def Rd (W : World) (A : Option Addr) (c : Nat) (l : List Int) : Prop := l.length ≤ c ∧ Kd.C (Kd.int .i64) W A l.length l
theorem Rd.step {W W' : World} {A : Option Addr} {c : Nat} {l : List Int} (h : Rd W A c l) (hb : Below W.heap.size W W') : Rd W' A c l := ⟨h.1, Kd.C_below h.2 hb⟩
theorem Rd.nil (W : World) : Rd W none 0 [] := ⟨Nat.le_refl _, Kd.C_nil _ _⟩
def pushL (L : List (List Msg)) (room u : Nat) (x : Msg) : List (List Msg) := L.set u (if (L.getD u []).length < room then L.getD u [] ++ [x] else L.getD u [])
def lackL (S : List Int) (tw : Int) : List Int := lacksL S [] [2 * tw + 1] []
def sendL (L : List (List Msg)) (room : Nat) (who : Int) (S I own : List Int) (tw : Int) (text : ByteArray) (op : Bool) : List Int × Int × List (List Msg) :=
  if ¬ ((0 ≤ who ∧ who < (L.length : Int)) ∧ (0 ≤ tw ∧ tw < (L.length : Int))) then ([], 1, L)
  else if ¬ Cats own then ([], 1, L)
  else if ¬ May S I then ([], 20, L)
  else if 1024 < text.size then ([], 4, L)
  else if ¬ Within (lackL S tw) (if op then own else []) then ([], 0, L)
  else (lackL S tw, 0, pushL L room tw.toNat (who, text))
theorem may_nil : May [] [] := by decide
theorem flowsL_own_no {own : List Int} (h : ¬ Cats own) : flowsL [] [] [] [] own = ([], 1) := by unfold flowsL; rw [if_neg (not_not_intro ⟨may_nil, may_nil⟩), if_pos h]
theorem flowsL_own {own : List Int} (h : Cats own) : flowsL [] [] [] [] own = (lacksL [] [] [] [], 0) := by
  have hw : Within (lacksL [] [] [] []) own := fun x hx => by rw [mem_lacks] at hx; simp at hx
  unfold flowsL; rw [if_neg (not_not_intro ⟨may_nil, may_nil⟩), if_neg (not_not_intro h), if_neg (not_not_intro hw)]
theorem cats_nil : Cats [] := by decide
theorem may_to {tw n : Int} (h : 0 ≤ tw ∧ tw < n) (hn : n ≤ 16) : May [2 * tw + 1] [] := ⟨by simp, by simp, ⟨by unfold Rises; simp, fun c hc => by rw [List.mem_singleton] at hc; omega⟩, cats_nil⟩
theorem may_left {S I : List Int} (h : May S I) : May S [] := ⟨h.1, by simp, h.2.2.1, cats_nil⟩
section
variable {W : World} {base : Nat} {ρ : Own} {t gp room : Nat} {mbs : List (Nat × Nat)} {L : List (List Msg)}
def RowPost (W : World) (r : List Int × Int) (e : Ending) (w' : World) : Prop := ∃ A c, e = .returned (.tuple #[.slice A r.1.length c, .int .i64 r.2]) ∧ Kd.R (Kd.int .i64) 3 w' W.heap.size (fun _ => True) (.slice A r.1.length c) r.1 ∧ Below W.heap.size W w'
theorem flowsR {A0 A1 A2 A3 A4 : Option Addr} {c0 c1 c2 c3 c4 : Nat} {l0 l1 l2 l3 l4 : List Int} (h0 : Rd W A0 c0 l0) (h1 : Rd W A1 c1 l1) (h2 : Rd W A2 c2 l2) (h3 : Rd W A3 c3 l3) (h4 : Rd W A4 c4 l4) (k4 : l4.length ≤ 17592186044415) {r : List Int × Int} (hr : flowsL l0 l1 l2 l3 l4 = r) :
    Calls Try.prog 23 #[.agg #[.slice A0 l0.length c0, .slice A1 l1.length c1], .agg #[.slice A2 l2.length c2, .slice A3 l3.length c3], .slice A4 l4.length c4] W (RowPost W r) := by
  obtain ⟨k, hk⟩ := (Sempt.flows_ev l0 l1 l2 l3 l4 k4).rounds
  rw [hr] at hk
  refine (Ppt.label_Flows.calls k A0 c0 l0 A1 c1 l1 A2 c2 l2 A3 c3 l3 A4 c4 l4 r.1 r.2 W h0.2 h0.1 h1.2 h1.1 h2.2 h2.1 h3.2 h3.1 h4.2 h4.1 hk).mono ?_
  rintro e w' ⟨v, rfl, hR, hb⟩
  obtain ⟨A, c, rfl⟩ := Kd.R_slice hR
  exact ⟨A, c, rfl, hR, hb⟩
theorem flows0 {A4 : Option Addr} {c4 : Nat} {l4 : List Int} (h4 : Rd W A4 c4 l4) (k4 : l4.length ≤ 17592186044415) {r : List Int × Int} (hr : flowsL [] [] [] [] l4 = r) :
    Calls Try.prog 23 #[.agg #[.slice none 0 0, .slice none 0 0], .agg #[.slice none 0 0, .slice none 0 0], .slice A4 l4.length c4] W (RowPost W r) := flowsR (Rd.nil _) (Rd.nil _) (Rd.nil _) (Rd.nil _) h4 k4 hr
theorem flows1 {A0 A2 A4 : Option Addr} {c0 c4 : Nat} {l0 l4 : List Int} {x : Int} (h0 : Rd W A0 c0 l0) (h2 : Rd W A2 1 [x]) (h4 : Rd W A4 c4 l4) (k4 : l4.length ≤ 17592186044415) {r : List Int × Int} (hr : flowsL l0 [] [x] [] l4 = r) :
    Calls Try.prog 23 #[.agg #[.slice A0 l0.length c0, .slice none 0 0], .agg #[.slice A2 1 1, .slice none 0 0], .slice A4 l4.length c4] W (RowPost W r) := flowsR h0 (Rd.nil _) h2 (Rd.nil _) h4 k4 hr
theorem flows2 {A0 A2 : Option Addr} {c0 : Nat} {l0 : List Int} {x : Int} (h0 : Rd W A0 c0 l0) (h2 : Rd W A2 1 [x]) {r : List Int × Int} (hr : flowsL l0 [] [x] [] [] = r) :
    Calls Try.prog 23 #[.agg #[.slice A0 l0.length c0, .slice none 0 0], .agg #[.slice A2 1 1, .slice none 0 0], .slice none 0 0] W (RowPost W r) := flowsR h0 (Rd.nil _) h2 (Rd.nil _) (Rd.nil _) (by simp) hr
theorem checkR {A0 A1 : Option Addr} {c0 c1 : Nat} {l0 l1 : List Int} (h0 : Rd W A0 c0 l0) (h1 : Rd W A1 c1 l1) {r : Int} (hr : chkL l0 l1 = r) :
    Calls Try.prog 24 #[.agg #[.slice A0 l0.length c0, .slice A1 l1.length c1]] W fun e w' => e = .returned (.int .i64 r) ∧ Below W.heap.size W w' := by
  obtain ⟨k, hk⟩ := (Sempt.check_ev l0 l1).rounds
  rw [hr] at hk
  exact (Ppt.label_Check.calls k A0 c0 l0 A1 c1 l1 r W h0.2 h0.1 h1.2 h1.1 hk).mono fun e w' ⟨he, hd⟩ => ⟨he, hd⟩
/-- Send, under way: the subject's box. -/
structure SE (W : World) (base : Nat) (ρ : Own) (t gp room : Nat) (mbs : List (Nat × Nat)) (L : List (List Msg)) (who : Int) (A0 : Option Addr) (c0 : Nat) (S : List Int) (A1 : Option Addr) (c1 : Nat) (I : List Int) (A2 : Option Addr) (c2 : Nat) (own : List Int) (Wx : World) : Prop where
  below : Below W.heap.size W Wx
  p : PAt Wx base (upd ρ W.heap.size (0, 0)) t gp room mbs L
  r0 : Rd Wx A0 c0 S
  r1 : Rd Wx A1 c1 I
  r2 : Rd Wx A2 c2 own
  bx : Wx.heap[W.heap.size]? = some (.cells #[.int .i64 who, .slice A0 S.length c0, .slice A1 I.length c1, .slice A2 own.length c2] 34 (0, 0))
section
variable {who : Int} {A0 A1 A2 : Option Addr} {c0 c1 c2 : Nat} {S I own : List Int} {Wx W' : World}
theorem SE.step (h : SE W base ρ t gp room mbs L who A0 c0 S A1 c1 I A2 c2 own Wx) (hb : Below Wx.heap.size Wx W') : SE W base ρ t gp room mbs L who A0 c0 S A1 c1 I A2 c2 own W' :=
  ⟨below_step h.below hb, h.p.below hb (Agree.refl _ _), h.r0.step hb, h.r1.step hb, h.r2.step hb, blk_below h.bx hb⟩
theorem SE.new (h : PAt W base ρ t gp room mbs L) (h0 : Rd W A0 c0 S) (h1 : Rd W A1 c1 I) (h2 : Rd W A2 c2 own) : SE W base ρ t gp room mbs L who A0 c0 S A1 c1 I A2 c2 own (W.alloc (.cells #[.int .i64 who, .slice A0 S.length c0, .slice A1 I.length c1, .slice A2 own.length c2] 34)) := by
  have hb := below_alloc (Below.refl W.heap.size W) (.cells #[.int .i64 who, .slice A0 S.length c0, .slice A1 I.length c1, .slice A2 own.length c2] 34)
  exact ⟨hb, h.below hb (fun k hk => upd_lt hk), h0.step hb, h1.step hb, h2.step hb, heap_alloc_new W _⟩
theorem SE.cells (h : SE W base ρ t gp room mbs L who A0 c0 S A1 c1 I A2 c2 own Wx) : Wx.cell? ⟨W.heap.size, 0, none⟩ = some (.int .i64 who) ∧ Wx.cell? ⟨W.heap.size, 1, none⟩ = some (.slice A0 S.length c0) ∧ Wx.cell? ⟨W.heap.size, 2, none⟩ = some (.slice A1 I.length c1) ∧ Wx.cell? ⟨W.heap.size, 3, none⟩ = some (.slice A2 own.length c2) :=
  ⟨blk_cell h.bx 0, blk_cell h.bx 1, blk_cell h.bx 2, blk_cell h.bx 3⟩
def SendPost (W : World) (base : Nat) (ρ : Own) (t gp room : Nat) (mbs : List (Nat × Nat)) (r : List Int × Int × List (List Msg)) (e : Ending) (W' : World) : Prop :=
  ∃ A c ρ', Agree W ρ ρ' ∧ e = .returned (.tuple #[.slice A r.1.length c, .int .i64 r.2.1]) ∧ Kd.R (Kd.int .i64) 3 W' W.heap.size (fun k => ρ' k = some (0, 0)) (.slice A r.1.length c) r.1 ∧ PAt W' base ρ' t gp room mbs r.2.2 ∧ Mod W W' (fun k => ∃ i, ρ k = some (t, i))
theorem SE.no (h : SE W base ρ t gp room mbs L who A0 c0 S A1 c1 I A2 c2 own Wx) {r : List Int × Int × List (List Msg)} {x : Int} (hr : r = ([], x, L)) : SendPost W base ρ t gp room mbs r (.returned (.tuple #[.slice none 0 0, .int .i64 x])) Wx := by
  subst hr
  exact ⟨none, 0, upd ρ W.heap.size (0, 0), fun k hk => upd_lt hk, rfl, Kd.R_nil _ _ _ _ _, h.p, Mod.of_below h.below _⟩
/-- The label of a mailbox. -/
theorem SE.lab (h : SE W base ρ t gp room mbs L who A0 c0 S A1 c1 I A2 c2 own Wx) {u : Nat} {x : Nat × Nat} (hx : mbs[u]? = some x) : Rd Wx (some ⟨x.2, 0, none⟩) 1 [2 * (u : Int) + 1] := ⟨Nat.le_refl _, Hand.lit_ints _ _ [2 * (u : Int) + 1] (by simp) (h.p.labs u x hx).1⟩
/-- The push at the end. -/
theorem SE.push (h : SE W base ρ t gp room mbs L who A0 c0 S A1 c1 I A2 c2 own Wx) {u : Nat} {x : Nat × Nat} (hx : mbs[u]? = some x) {Ar : Option Addr} {cr : Nat} {r : List Int} {W2 : World} (hb : W.heap.size ≤ W2.heap.size) (hR : Kd.R (Kd.int .i64) 3 Wx W2.heap.size (fun _ => True) (.slice Ar r.length cr) r) (m : Msg) (hbase : base ≤ W.heap.size) :
    Calls Try.prog 25 #[.pointer (some ⟨x.1, 0, none⟩), .agg #[.int .i64 m.1, .string m.2]] Wx fun e W' => (∃ b, e = .returned (.bool b)) ∧ SendPost W base ρ t gp room mbs (r, 0, pushL L room u m) (.returned (.tuple #[.slice Ar r.length cr, .int .i64 0])) W' := by
  have hz := h.below.size
  have ht := h.p.tag
  have hlt : u < L.length := by rw [← h.p.len]; exact (List.getElem?_eq_some_iff.1 hx).1
  have ho : Agree Wx (upd ρ W.heap.size (0, 0)) (upd (upd ρ W.heap.size (0, 0)) Wx.heap.size (t, u + 1)) := fun k hk => upd_lt hk
  have hp := h.p.below (Below.refl _ _) ho
  have hl : L[u]? = some (L.getD u []) := by rw [List.getD_eq_getElem?_getD, List.getElem?_eq_getElem hlt]; rfl
  refine (push_calls (hp.qs u x _ hx hl) (fun k hk => upd_ge hk) (Nat.le_trans hbase hz) m).mono ?_
  rintro e W' ⟨he, hq, hm⟩
  have h3 : PAt W' base (upd (upd ρ W.heap.size (0, 0)) Wx.heap.size (t, u + 1)) t gp room mbs (pushL L room u m) := hp.turn hx hq hm (Agree.refl _ _)
  refine ⟨⟨_, he⟩, Ar, cr, _, (show Agree W ρ (upd ρ W.heap.size (0, 0)) from fun k hk => upd_lt hk).upd hz (t, u + 1), rfl, ?_, h3, ?_⟩
  · refine Kd.R_mono (Kd.R_step (Kd.R_lower (Kd.R_bound hR) hb) (fun k hk hlt => hm.block k hlt ?_)) (fun k hk => ?_)
    · have h1 : W2.heap.size ≤ k := hk.2.1
      show ¬ (upd (upd ρ W.heap.size (0, 0)) Wx.heap.size (t, u + 1) k = some (t, u + 1))
      rw [upd_lt hlt, upd_ge (by omega)]
      intro e
      injection e with e
      injection e with e
      omega
    · have h1 : W2.heap.size ≤ k := hk.2.1
      have h2 : k < Wx.heap.size := hk.2.2.1
      show upd (upd ρ W.heap.size (0, 0)) Wx.heap.size (t, u + 1) k = some (0, 0)
      rw [upd_lt h2, upd_ge (by omega)]
  · refine (Mod.of_below h.below (fun k => ∃ i, ρ k = some (t, i))).trans (hm.mono (fun k hk e => ?_))
    rcases Nat.lt_or_ge k W.heap.size with h1 | h1
    · refine .inl ⟨u + 1, ?_⟩
      have e2 : upd (upd ρ W.heap.size (0, 0)) Wx.heap.size (t, u + 1) k = some (t, u + 1) := e
      rw [upd_lt hk, upd_lt h1] at e2
      exact e2
    · exact .inr h1
end
set_option maxHeartbeats 4000000 in
set_option maxRecDepth 100000 in
theorem send_a1 (h : PAt W base ρ t gp room mbs L) {who : Int} {A0 A1 A2 : Option Addr} {c0 c1 c2 : Nat} {S I own : List Int} (h0 : Rd W A0 c0 S) (h1 : Rd W A1 c1 I) (h2 : Rd W A2 c2 own) (hown : own.length ≤ 17592186044415) (tw : Int) (text : ByteArray) (op : Bool) (hbase : base ≤ W.heap.size) (hw : decide (0 ≤ who ∧ who < (L.length : Int)) = false) :
    Calls Try.prog 9 #[.pointer (some ⟨gp, 0, none⟩), .agg #[.int .i64 who, .slice A0 S.length c0, .slice A1 I.length c1, .slice A2 own.length c2], .int .i64 tw, .string text, .bool op] W (SendPost W base ρ t gp room mbs (sendL L room who S I own tw text op)) := by
  have HX := Aside0.mk (show ∀ W1, W.alloc (.cells #[.int .i64 who, .slice A0 S.length c0, .slice A1 I.length c1, .slice A2 own.length c2] 34) = W1 → SE W base ρ t gp room mbs L who A0 c0 S A1 c1 I A2 c2 own W1 from fun W1 e => e ▸ SE.new h h0 h1 h2)
  have Hw := Aside0.mk hw
  have HE := Aside0.mk (show sendL L room who S I own tw text op = ([], 1, L) from if_pos (fun h => by have := of_decide_eq_false hw; exact this h.1))
  clear h h0 h1 h2 hw
  go_enter Try.func9, Try.ntmps9
  go_wp2_with (first
    | (go_at_call 22; (with_reducible refine (PAt.is (HX.out _ rfl).p who _ Hw.out).mono ?_); rintro e w1 ⟨rfl, hw⟩; have HS := Aside0.mk (HX.out w1 hw); clear HX hw))
  go_ret2
  exact HS.out.no HE.out
set_option maxHeartbeats 4000000 in
set_option maxRecDepth 100000 in
theorem send_a2 (h : PAt W base ρ t gp room mbs L) {who : Int} {A0 A1 A2 : Option Addr} {c0 c1 c2 : Nat} {S I own : List Int} (h0 : Rd W A0 c0 S) (h1 : Rd W A1 c1 I) (h2 : Rd W A2 c2 own) (hown : own.length ≤ 17592186044415) (tw : Int) (text : ByteArray) (op : Bool) (hbase : base ≤ W.heap.size) (hw : decide (0 ≤ who ∧ who < (L.length : Int)) = true) (ht : decide (0 ≤ tw ∧ tw < (L.length : Int)) = false) :
    Calls Try.prog 9 #[.pointer (some ⟨gp, 0, none⟩), .agg #[.int .i64 who, .slice A0 S.length c0, .slice A1 I.length c1, .slice A2 own.length c2], .int .i64 tw, .string text, .bool op] W (SendPost W base ρ t gp room mbs (sendL L room who S I own tw text op)) := by
  have HX := Aside0.mk (show ∀ W1, W.alloc (.cells #[.int .i64 who, .slice A0 S.length c0, .slice A1 I.length c1, .slice A2 own.length c2] 34) = W1 → SE W base ρ t gp room mbs L who A0 c0 S A1 c1 I A2 c2 own W1 from fun W1 e => e ▸ SE.new h h0 h1 h2)
  have Hw := Aside0.mk hw
  have Ht := Aside0.mk ht
  have HE := Aside0.mk (show sendL L room who S I own tw text op = ([], 1, L) from if_pos (fun h => by have := of_decide_eq_false ht; exact this h.2))
  clear h h0 h1 h2 hw ht
  go_enter Try.func9, Try.ntmps9
  go_wp2_with (first
    | (go_at_call 22; (with_reducible refine (PAt.is (HX.out _ rfl).p who _ Hw.out).mono ?_); rintro e w1 ⟨rfl, hw⟩; have HS := Aside0.mk (HX.out w1 hw); clear HX hw)
    | (go_at_call 22; (with_reducible refine (PAt.is HS.out.p _ _ Ht.out).mono ?_); rintro e w2 ⟨rfl, rfl⟩; obtain ⟨x0, x1, x2, x3⟩ := HS.out.cells))
  go_ret2
  exact HS.out.no HE.out
set_option maxHeartbeats 4000000 in
set_option maxRecDepth 100000 in
theorem send_b (h : PAt W base ρ t gp room mbs L) {who : Int} {A0 A1 A2 : Option Addr} {c0 c1 c2 : Nat} {S I own : List Int} (h0 : Rd W A0 c0 S) (h1 : Rd W A1 c1 I) (h2 : Rd W A2 c2 own) (hown : own.length ≤ 17592186044415) (tw : Int) (text : ByteArray) (op : Bool) (hbase : base ≤ W.heap.size) (hw : decide (0 ≤ who ∧ who < (L.length : Int)) = true) (ht : decide (0 ≤ tw ∧ tw < (L.length : Int)) = true) (hc : ¬ Cats own) :
    Calls Try.prog 9 #[.pointer (some ⟨gp, 0, none⟩), .agg #[.int .i64 who, .slice A0 S.length c0, .slice A1 I.length c1, .slice A2 own.length c2], .int .i64 tw, .string text, .bool op] W (SendPost W base ρ t gp room mbs (sendL L room who S I own tw text op)) := by
  have HX := Aside0.mk (show ∀ W1, W.alloc (.cells #[.int .i64 who, .slice A0 S.length c0, .slice A1 I.length c1, .slice A2 own.length c2] 34) = W1 → SE W base ρ t gp room mbs L who A0 c0 S A1 c1 I A2 c2 own W1 from fun W1 e => e ▸ SE.new h h0 h1 h2)
  have Hw := Aside0.mk hw
  have Ht := Aside0.mk ht
  have Ho := Aside0.mk hown
  have hwt : ¬ ¬ ((0 ≤ who ∧ who < (L.length : Int)) ∧ (0 ≤ tw ∧ tw < (L.length : Int))) := not_not_intro ⟨of_decide_eq_true hw, of_decide_eq_true ht⟩
  have Hf0 := Aside0.mk (flowsL_own_no hc)
  have HE := Aside0.mk (show sendL L room who S I own tw text op = ([], 1, L) from by unfold sendL; rw [if_neg hwt, if_pos hc])
  clear h h0 h1 h2 hw ht hc hwt hown
  go_enter Try.func9, Try.ntmps9
  go_wp2_with (first
    | (go_at_call 22; (with_reducible refine (PAt.is (HX.out _ rfl).p who _ Hw.out).mono ?_); rintro e w1 ⟨rfl, hw⟩; have HS := Aside0.mk (HX.out w1 hw); clear HX hw)
    | (go_at_call 22; (with_reducible refine (PAt.is HS.out.p _ _ Ht.out).mono ?_); rintro e w2 ⟨rfl, rfl⟩; obtain ⟨x0, x1, x2, x3⟩ := HS.out.cells)
    | (go_at_call 23; (with_reducible refine (flows0 HS.out.r2 Ho.out Hf0.out).mono ?_); rintro e w3 ⟨A3, c3, rfl, hR3, hb3⟩; clear hR3; have nS := Aside0.mk (HS.out.step hb3); clear HS hb3 x0 x1 x2 x3; have HS := nS; clear nS; obtain ⟨x0, x1, x2, x3⟩ := HS.out.cells))
  go_ret2
  exact HS.out.no HE.out
set_option maxHeartbeats 4000000 in
set_option maxRecDepth 100000 in
theorem send_c (h : PAt W base ρ t gp room mbs L) {who : Int} {A0 A1 A2 : Option Addr} {c0 c1 c2 : Nat} {S I own : List Int} (h0 : Rd W A0 c0 S) (h1 : Rd W A1 c1 I) (h2 : Rd W A2 c2 own) (hown : own.length ≤ 17592186044415) (tw : Int) (text : ByteArray) (op : Bool) (hbase : base ≤ W.heap.size) (hw : decide (0 ≤ who ∧ who < (L.length : Int)) = true) (ht : decide (0 ≤ tw ∧ tw < (L.length : Int)) = true) (hc : Cats own) (hm : ¬ May S I) :
    Calls Try.prog 9 #[.pointer (some ⟨gp, 0, none⟩), .agg #[.int .i64 who, .slice A0 S.length c0, .slice A1 I.length c1, .slice A2 own.length c2], .int .i64 tw, .string text, .bool op] W (SendPost W base ρ t gp room mbs (sendL L room who S I own tw text op)) := by
  have HX := Aside0.mk (show ∀ W1, W.alloc (.cells #[.int .i64 who, .slice A0 S.length c0, .slice A1 I.length c1, .slice A2 own.length c2] 34) = W1 → SE W base ρ t gp room mbs L who A0 c0 S A1 c1 I A2 c2 own W1 from fun W1 e => e ▸ SE.new h h0 h1 h2)
  have Hw := Aside0.mk hw
  have Ht := Aside0.mk ht
  have Ho := Aside0.mk hown
  have hwt : ¬ ¬ ((0 ≤ who ∧ who < (L.length : Int)) ∧ (0 ≤ tw ∧ tw < (L.length : Int))) := not_not_intro ⟨of_decide_eq_true hw, of_decide_eq_true ht⟩
  have Hf0 := Aside0.mk (flowsL_own hc)
  have Hc := Aside0.mk (show chkL S I = 20 from if_neg hm)
  have HE := Aside0.mk (show sendL L room who S I own tw text op = ([], 20, L) from by unfold sendL; rw [if_neg hwt, if_neg (not_not_intro hc), if_pos hm])
  clear h h0 h1 h2 hw ht hc hwt hm hown
  go_enter Try.func9, Try.ntmps9
  go_wp2_with (first
    | (go_at_call 22; (with_reducible refine (PAt.is (HX.out _ rfl).p who _ Hw.out).mono ?_); rintro e w1 ⟨rfl, hw⟩; have HS := Aside0.mk (HX.out w1 hw); clear HX hw)
    | (go_at_call 22; (with_reducible refine (PAt.is HS.out.p _ _ Ht.out).mono ?_); rintro e w2 ⟨rfl, rfl⟩; obtain ⟨x0, x1, x2, x3⟩ := HS.out.cells)
    | (go_at_call 23; (with_reducible refine (flows0 HS.out.r2 Ho.out Hf0.out).mono ?_); rintro e w3 ⟨A3, c3, rfl, hR3, hb3⟩; clear hR3; have nS := Aside0.mk (HS.out.step hb3); clear HS hb3 x0 x1 x2 x3; have HS := nS; clear nS; obtain ⟨x0, x1, x2, x3⟩ := HS.out.cells)
    | (go_at_call 24; (with_reducible refine (checkR HS.out.r0 HS.out.r1 Hc.out).mono ?_); rintro e w4 ⟨rfl, hb4⟩; have nS := Aside0.mk (HS.out.step hb4); clear HS hb4 x0 x1 x2 x3; have HS := nS; clear nS; obtain ⟨x0, x1, x2, x3⟩ := HS.out.cells))
  go_ret2
  exact HS.out.no HE.out
set_option maxHeartbeats 4000000 in
set_option maxRecDepth 100000 in
theorem send_d (h : PAt W base ρ t gp room mbs L) {who : Int} {A0 A1 A2 : Option Addr} {c0 c1 c2 : Nat} {S I own : List Int} (h0 : Rd W A0 c0 S) (h1 : Rd W A1 c1 I) (h2 : Rd W A2 c2 own) (hown : own.length ≤ 17592186044415) (tw : Int) (text : ByteArray) (op : Bool) (hbase : base ≤ W.heap.size) (hw : decide (0 ≤ who ∧ who < (L.length : Int)) = true) (ht : decide (0 ≤ tw ∧ tw < (L.length : Int)) = true) (hc : Cats own) (hm : May S I) (hl : 1024 < text.size) :
    Calls Try.prog 9 #[.pointer (some ⟨gp, 0, none⟩), .agg #[.int .i64 who, .slice A0 S.length c0, .slice A1 I.length c1, .slice A2 own.length c2], .int .i64 tw, .string text, .bool op] W (SendPost W base ρ t gp room mbs (sendL L room who S I own tw text op)) := by
  have HX := Aside0.mk (show ∀ W1, W.alloc (.cells #[.int .i64 who, .slice A0 S.length c0, .slice A1 I.length c1, .slice A2 own.length c2] 34) = W1 → SE W base ρ t gp room mbs L who A0 c0 S A1 c1 I A2 c2 own W1 from fun W1 e => e ▸ SE.new h h0 h1 h2)
  have Hw := Aside0.mk hw
  have Ht := Aside0.mk ht
  have Ho := Aside0.mk hown
  have hwt : ¬ ¬ ((0 ≤ who ∧ who < (L.length : Int)) ∧ (0 ≤ tw ∧ tw < (L.length : Int))) := not_not_intro ⟨of_decide_eq_true hw, of_decide_eq_true ht⟩
  have Hf0 := Aside0.mk (flowsL_own hc)
  have Hc := Aside0.mk (show chkL S I = 0 from if_pos hm)
  have HE := Aside0.mk (show sendL L room who S I own tw text op = ([], 4, L) from by unfold sendL; rw [if_neg hwt, if_neg (not_not_intro hc), if_neg (not_not_intro hm), if_pos hl])
  have d0 : decide ((text.size : Int) > 1024) = true := decide_eq_true (by omega)
  have d1 : decide (1024 < (text.size : Int)) = true := decide_eq_true (by omega)
  have d2 : decide (1024 < text.size) = true := decide_eq_true hl
  clear h h0 h1 h2 hw ht hc hwt hm hown
  go_enter Try.func9, Try.ntmps9
  go_wp2_with (first
    | (go_at_call 22; (with_reducible refine (PAt.is (HX.out _ rfl).p who _ Hw.out).mono ?_); rintro e w1 ⟨rfl, hw⟩; have HS := Aside0.mk (HX.out w1 hw); clear HX hw)
    | (go_at_call 22; (with_reducible refine (PAt.is HS.out.p _ _ Ht.out).mono ?_); rintro e w2 ⟨rfl, rfl⟩; obtain ⟨x0, x1, x2, x3⟩ := HS.out.cells)
    | (go_at_call 23; (with_reducible refine (flows0 HS.out.r2 Ho.out Hf0.out).mono ?_); rintro e w3 ⟨A3, c3, rfl, hR3, hb3⟩; clear hR3; have nS := Aside0.mk (HS.out.step hb3); clear HS hb3 x0 x1 x2 x3; have HS := nS; clear nS; obtain ⟨x0, x1, x2, x3⟩ := HS.out.cells)
    | (go_at_call 24; (with_reducible refine (checkR HS.out.r0 HS.out.r1 Hc.out).mono ?_); rintro e w4 ⟨rfl, hb4⟩; have nS := Aside0.mk (HS.out.step hb4); clear HS hb4 x0 x1 x2 x3; have HS := nS; clear nS; obtain ⟨x0, x1, x2, x3⟩ := HS.out.cells))
  go_ret2
  exact HS.out.no HE.out
set_option maxHeartbeats 4000000 in
set_option maxRecDepth 100000 in
theorem send_e1 (h : PAt W base ρ t gp room mbs L) {who : Int} {A0 A1 A2 : Option Addr} {c0 c1 c2 : Nat} {S I own : List Int} (h0 : Rd W A0 c0 S) (h1 : Rd W A1 c1 I) (h2 : Rd W A2 c2 own) (hown : own.length ≤ 17592186044415) (tw : Int) (text : ByteArray) (op : Bool) (hbase : base ≤ W.heap.size) (hw : decide (0 ≤ who ∧ who < (L.length : Int)) = true) (ht : decide (0 ≤ tw ∧ tw < (L.length : Int)) = true) (hc : Cats own) (hm : May S I) (hl : ¬ 1024 < text.size) (hop : op = true) (hf : ¬ Within (lackL S tw) (if op then own else [])) :
    Calls Try.prog 9 #[.pointer (some ⟨gp, 0, none⟩), .agg #[.int .i64 who, .slice A0 S.length c0, .slice A1 I.length c1, .slice A2 own.length c2], .int .i64 tw, .string text, .bool op] W (SendPost W base ρ t gp room mbs (sendL L room who S I own tw text op)) := by
  have HX := Aside0.mk (show ∀ W1, W.alloc (.cells #[.int .i64 who, .slice A0 S.length c0, .slice A1 I.length c1, .slice A2 own.length c2] 34) = W1 → SE W base ρ t gp room mbs L who A0 c0 S A1 c1 I A2 c2 own W1 from fun W1 e => e ▸ SE.new h h0 h1 h2)
  have Hw := Aside0.mk hw
  have Ht := Aside0.mk ht
  have Ho := Aside0.mk hown
  have hwt : ¬ ¬ ((0 ≤ who ∧ who < (L.length : Int)) ∧ (0 ≤ tw ∧ tw < (L.length : Int))) := not_not_intro ⟨of_decide_eq_true hw, of_decide_eq_true ht⟩
  subst hop
  have Hf0 := Aside0.mk (flowsL_own hc)
  have Hc := Aside0.mk (show chkL S I = 0 from if_pos hm)
  have HE := Aside0.mk (show sendL L room who S I own tw text true = ([], 0, L) from by unfold sendL; rw [if_neg hwt, if_neg (not_not_intro hc), if_neg (not_not_intro hm), if_neg hl, if_pos hf])
  have d0 : decide ((text.size : Int) > 1024) = false := decide_eq_false (by omega)
  have d1 : decide (1024 < (text.size : Int)) = false := decide_eq_false (by omega)
  have d2 : decide (1024 < text.size) = false := decide_eq_false hl
  obtain ⟨u, rfl⟩ := Int.eq_ofNat_of_zero_le (of_decide_eq_true ht).1
  have hu : u < L.length := by have := (of_decide_eq_true ht).2; omega
  have hf16 := h.few
  have HU := Aside0.mk hu
  have Hf := Aside0.mk (show flowsL S [] [2 * (u : Int) + 1] [] own = ([], 21) from by
    have hf' : ¬ Within (lacksL S [] [2 * (u : Int) + 1] []) own := by simpa [lackL] using hf
    unfold flowsL
    rw [if_neg (not_not_intro ⟨may_left hm, may_to (of_decide_eq_true ht) (by omega)⟩), if_neg (not_not_intro hc), if_pos hf'])
  have Hon := Aside0.mk (show (own).length ≤ 17592186044415 from hown)
  have HBase := Aside0.mk hbase
  clear h h0 h1 h2 hw ht hc hwt hm hf hl hown hbase hf16
  go_enter Try.func9, Try.ntmps9
  go_wp2_with (first
    | (go_at_call 22; (with_reducible refine (PAt.is (HX.out _ rfl).p who _ Hw.out).mono ?_); rintro e w1 ⟨rfl, hw⟩; have HS := Aside0.mk (HX.out w1 hw); clear HX hw)
    | (go_at_call 22; (with_reducible refine (PAt.is HS.out.p _ _ Ht.out).mono ?_); rintro e w2 ⟨rfl, rfl⟩; obtain ⟨x0, x1, x2, x3⟩ := HS.out.cells)
    | (go_at_call 23; (with_reducible refine (flows0 HS.out.r2 Ho.out Hf0.out).mono ?_); rintro e w3 ⟨A3, c3, rfl, hR3, hb3⟩; clear hR3; have nS := Aside0.mk (HS.out.step hb3); clear HS hb3 x0 x1 x2 x3; have HS := nS; clear nS; obtain ⟨x0, x1, x2, x3⟩ := HS.out.cells)
    | (go_at_call 24; (with_reducible refine (checkR HS.out.r0 HS.out.r1 Hc.out).mono ?_); rintro e w4 ⟨rfl, hb4⟩; have nS := Aside0.mk (HS.out.step hb4); clear HS hb4 x0 x1 x2 x3; have HS := nS; clear nS; obtain ⟨x0, x1, x2, x3⟩ := HS.out.cells))
  obtain ⟨bt, ct, xm, hbx, hxm, _, y0, y1, y2, hbt⟩ := HS.out.p.cells HU.out
  have g0 : w4.cell? ⟨gp, 0, none⟩ = some (.slice (some ⟨bt, 0, none⟩) L.length ct) := blk_cell hbx 0
  have hgl := blk_lt hbx
  have HXm := Aside0.mk hxm
  have HF := Aside0.mk (flows1 (W := w4.drew) (HS.out.r0.step (below_drew (Below.refl _ _))) ((HS.out.lab hxm).step (below_drew (Below.refl _ _))) (HS.out.r2.step (below_drew (Below.refl _ _))) Hon.out Hf.out)
  clear hbx hxm
  refine start_ (n := 19) (S := fun w' => w'.cell? ⟨W.heap.size, 1, none⟩ = some (.slice A0 S.length c0) ∧ w'.cell? ⟨gp, 0, none⟩ = some (.slice (some ⟨bt, 0, none⟩) L.length ct) ∧ w'.cell? ⟨bt, u * 3 + 1, none⟩ = some (.slice (some ⟨xm.2, 0, none⟩) 1 1) ∧ w'.cell? ⟨bt, u * 3 + 2, none⟩ = some (.slice none 0 0)) (ds := []) #[false, false, false, false, false, false, false, false, false, false, false, false, false, false, false, false, false, false, false] (by kernel_rfl) rfl rfl ⟨x1, g0, y1, y2⟩ (fun hHeld => ?_)
  refine pure_ (i := 0) (N := some 52) (v := ?_) (a' := ?_) #[true, false, false, false, false, false, false, false, false, false, false, false, false, false, false, false, false, false, false] rfl rfl (by kernel_rfl) (fun _ _ _ h => h) (Or.inl ⟨by rfl, ?_⟩) ?_ ?_
  rotate_left
  · intro w'
    go_simp
    with_reducible rfl
  rotate_left
  · simp only [Act.put, List.setIfInBounds_toArray, List.set_cons_zero, List.set_cons_succ, i64_w, i32_w]
    rfl
  refine pure_ (i := 1) (N := some 53) (v := ?_) (a' := ?_) #[true, true, false, false, false, false, false, false, false, false, false, false, false, false, false, false, false, false, false] rfl rfl (by kernel_rfl) (fun _ _ _ h => h) (Or.inl ⟨by rfl, ?_⟩) ?_ ?_
  rotate_left
  · intro w'
    go_simp
    with_reducible rfl
  rotate_left
  · simp only [Act.put, List.setIfInBounds_toArray, List.set_cons_zero, List.set_cons_succ, i64_w, i32_w]
    rfl
  refine pure_ (i := 4) (N := some 56) (v := ?_) (a' := ?_) #[true, true, false, false, true, false, false, false, false, false, false, false, false, false, false, false, false, false, false] rfl rfl (by kernel_rfl) (fun _ _ _ h => h) (Or.inl ⟨by rfl, ?_⟩) ?_ ?_
  rotate_left
  · intro w'
    go_simp
    with_reducible rfl
  rotate_left
  · simp only [Act.put, List.setIfInBounds_toArray, List.set_cons_zero, List.set_cons_succ, i64_w, i32_w]
    rfl
  refine pure_ (i := 5) (N := some 57) (v := ?_) (a' := ?_) #[true, true, false, false, true, true, false, false, false, false, false, false, false, false, false, false, false, false, false] rfl rfl (by kernel_rfl) (fun _ _ _ h => h) (Or.inl ⟨by rfl, ?_⟩) ?_ ?_
  rotate_left
  · intro w'
    go_simp
    with_reducible rfl
  rotate_left
  · simp only [Act.put, List.setIfInBounds_toArray, List.set_cons_zero, List.set_cons_succ, i64_w, i32_w]
    rfl
  refine pure_ (i := 6) (N := some 58) (v := ?_) (a' := ?_) #[true, true, false, false, true, true, true, false, false, false, false, false, false, false, false, false, false, false, false] rfl rfl (by kernel_rfl) (fun _ _ _ h => h) (Or.inl ⟨by rfl, ?_⟩) ?_ ?_
  rotate_left
  · intro w'
    go_simp
    with_reducible rfl
  rotate_left
  · simp only [Act.put, List.setIfInBounds_toArray, List.set_cons_zero, List.set_cons_succ, i64_w, i32_w]
    rfl
  refine pure_ (i := 8) (N := some 60) (v := ?_) (a' := ?_) #[true, true, false, false, true, true, true, false, true, false, false, false, false, false, false, false, false, false, false] rfl rfl (by kernel_rfl) (fun _ _ _ h => h) (Or.inl ⟨by rfl, ?_⟩) ?_ ?_
  rotate_left
  · intro w'
    go_simp
    with_reducible rfl
  rotate_left
  · simp only [Act.put, List.setIfInBounds_toArray, List.set_cons_zero, List.set_cons_succ, i64_w, i32_w]
    rfl
  refine pure_ (i := 12) (N := some 64) (v := ?_) (a' := ?_) #[true, true, false, false, true, true, true, false, true, false, false, false, true, false, false, false, false, false, false] rfl rfl (by kernel_rfl) (fun _ _ _ h => h) (Or.inl ⟨by rfl, ?_⟩) ?_ ?_
  rotate_left
  · intro w'
    go_simp
    with_reducible rfl
  rotate_left
  · simp only [Act.put, List.setIfInBounds_toArray, List.set_cons_zero, List.set_cons_succ, i64_w, i32_w]
    rfl
  refine take_ (i := 2) (N := some 54) (v := ?_) (a' := ?_) #[true, true, true, false, true, true, true, false, true, false, false, false, true, false, false, false, false, false, false] rfl rfl (by kernel_rfl) (fun _ _ _ h => h) (Or.inl ⟨by rfl, ?_⟩) hHeld ?_ ?_
  rotate_left
  · rintro w' ⟨s0, s1, s2, s3⟩
    go_simp
    with_reducible rfl
  rotate_left
  · simp only [Act.put, List.setIfInBounds_toArray, List.set_cons_zero, List.set_cons_succ, i64_w, i32_w]
    rfl
  refine pure_ (i := 3) (N := some 55) (v := ?_) (a' := ?_) #[true, true, true, true, true, true, true, false, true, false, false, false, true, false, false, false, false, false, false] rfl rfl (by kernel_rfl) (fun _ _ _ h => h) (Or.inl ⟨by rfl, ?_⟩) ?_ ?_
  rotate_left
  · intro w'
    go_simp
    with_reducible rfl
  rotate_left
  · simp only [Act.put, List.setIfInBounds_toArray, List.set_cons_zero, List.set_cons_succ, i64_w, i32_w]
    rfl
  refine take_ (i := 7) (N := some 59) (v := ?_) (a' := ?_) #[true, true, true, true, true, true, true, true, true, false, false, false, true, false, false, false, false, false, false] rfl rfl (by kernel_rfl) (fun _ _ _ h => h) (Or.inl ⟨by rfl, ?_⟩) hHeld ?_ ?_
  rotate_left
  · rintro w' ⟨s0, s1, s2, s3⟩
    go_simp
    with_reducible rfl
  rotate_left
  · simp only [Act.put, List.setIfInBounds_toArray, List.set_cons_zero, List.set_cons_succ, i64_w, i32_w]
    rfl
  refine pure_ (i := 9) (N := some 61) (v := ?_) (a' := ?_) #[true, true, true, true, true, true, true, true, true, true, false, false, true, false, false, false, false, false, false] rfl rfl (by kernel_rfl) (fun _ _ _ h => h) (Or.inl ⟨by rfl, ?_⟩) ?_ ?_
  rotate_left
  · intro w'
    go_simp
    with_reducible rfl
  rotate_left
  · simp only [Act.put, List.setIfInBounds_toArray, List.set_cons_zero, List.set_cons_succ, i64_w, i32_w]
    rfl
  refine pure_ (i := 10) (N := some 62) (v := ?_) (a' := ?_) #[true, true, true, true, true, true, true, true, true, true, true, false, true, false, false, false, false, false, false] rfl rfl (by kernel_rfl) (fun _ _ _ h => h) (Or.inl ⟨by rfl, ?_⟩) ?_ ?_
  rotate_left
  · intro w'
    go_simp
    with_reducible rfl
  rotate_left
  · simp only [Act.put, List.setIfInBounds_toArray, List.set_cons_zero, List.set_cons_succ, i64_w, i32_w]
    rfl
  refine take_ (i := 11) (N := some 63) (v := ?_) (a' := ?_) #[true, true, true, true, true, true, true, true, true, true, true, true, true, false, false, false, false, false, false] rfl rfl (by kernel_rfl) (fun _ _ _ h => h) (Or.inl ⟨by rfl, ?_⟩) hHeld ?_ ?_
  rotate_left
  · rintro w' ⟨s0, s1, s2, s3⟩
    go_simp
    with_reducible rfl
  rotate_left
  · simp only [Act.put, List.setIfInBounds_toArray, List.set_cons_zero, List.set_cons_succ, i64_w, i32_w]
    rfl
  refine one_ (i := 13) (N := some 65) #[true, true, true, true, true, true, true, true, true, true, true, true, true, true, false, false, false, false, false] rfl rfl (by kernel_rfl) (by decide) (fun K hK => ?_)
  refine goes_ Try.func23 (by kernel_rfl) rfl #[.agg #[.slice A0 S.length c0, .slice none 0 0], .agg #[.slice (some ⟨xm.2, 0, none⟩) 1 1, .slice none 0 0], .slice A2 own.length c2] (by rfl) rfl rfl (by simp only [List.map_toArray, List.map_cons, List.map_nil]; rfl) ?_
  with_reducible refine (HF.out).mono ?_
  rintro e w5 ⟨A5, c5, rfl, hR5, hb5⟩
  refine ⟨_, rfl, ?_⟩
  have HR5 := Aside0.mk hR5
  have HB5 := Aside0.mk (below_step (W := w4.drew) (below_drew (Below.refl w4.heap.size w4)) hb5)
  clear hR5 hb5
  refine hK.out _ _ ⟨(HB5.out.cell (p := ⟨W.heap.size, 1, none⟩) (blk_lt HS.out.bx)).trans x1, (HB5.out.cell (p := ⟨gp, 0, none⟩) hgl).trans g0, (HB5.out.cell (p := ⟨bt, u * 3 + 1, none⟩) hbt).trans y1, (HB5.out.cell (p := ⟨bt, u * 3 + 2, none⟩) hbt).trans y2⟩ (fun hHeld => ?_)
  clear hK K
  refine norm_ (a' := ?_) ?_ ?_
  rotate_left
  · show Act.put _ (some 65) _ = _
    simp only [Act.put, List.setIfInBounds_toArray, List.set_cons_zero, List.set_cons_succ, i64_w, i32_w]
    rfl
  refine pure_ (i := 14) (N := some 51) (v := ?_) (a' := ?_) #[true, true, true, true, true, true, true, true, true, true, true, true, true, true, true, false, false, false, false] rfl rfl (by kernel_rfl) (fun _ _ _ h => h) (Or.inl ⟨by rfl, ?_⟩) ?_ ?_
  rotate_left
  · intro w'
    go_simp
    with_reducible rfl
  rotate_left
  · simp only [Act.put, List.setIfInBounds_toArray, List.set_cons_zero, List.set_cons_succ, i64_w, i32_w]
    rfl
  refine pure_ (i := 15) (N := some 66) (v := ?_) (a' := ?_) #[true, true, true, true, true, true, true, true, true, true, true, true, true, true, true, true, false, false, false] rfl rfl (by kernel_rfl) (fun _ _ _ h => h) (Or.inl ⟨by rfl, ?_⟩) ?_ ?_
  rotate_left
  · intro w'
    go_simp
    with_reducible rfl
  rotate_left
  · simp only [Act.put, List.setIfInBounds_toArray, List.set_cons_zero, List.set_cons_succ, i64_w, i32_w]
    rfl
  refine pure_ (i := 16) (N := some 67) (v := ?_) (a' := ?_) #[true, true, true, true, true, true, true, true, true, true, true, true, true, true, true, true, true, false, false] rfl rfl (by kernel_rfl) (fun _ _ _ h => h) (Or.inl ⟨by rfl, ?_⟩) ?_ ?_
  rotate_left
  · intro w'
    go_simp
    with_reducible rfl
  rotate_left
  · simp only [Act.put, List.setIfInBounds_toArray, List.set_cons_zero, List.set_cons_succ, i64_w, i32_w]
    rfl
  refine pure_ (i := 17) (N := some 16) (v := ?_) (a' := ?_) #[true, true, true, true, true, true, true, true, true, true, true, true, true, true, true, true, true, true, false] rfl rfl (by kernel_rfl) (fun _ _ _ h => h) (Or.inl ⟨by rfl, ?_⟩) ?_ ?_
  rotate_left
  · intro w'
    go_simp
    with_reducible rfl
  rotate_left
  · simp only [Act.put, List.setIfInBounds_toArray, List.set_cons_zero, List.set_cons_succ, i64_w, i32_w]
    rfl
  refine pure_ (i := 18) (N := some 17) (v := ?_) (a' := ?_) #[true, true, true, true, true, true, true, true, true, true, true, true, true, true, true, true, true, true, true] rfl rfl (by kernel_rfl) (fun _ _ _ h => h) (Or.inl ⟨by rfl, ?_⟩) ?_ ?_
  rotate_left
  · intro w'
    go_simp
    with_reducible rfl
  rotate_left
  · simp only [Act.put, List.setIfInBounds_toArray, List.set_cons_zero, List.set_cons_succ, i64_w, i32_w]
    rfl
  refine done_ (by kernel_rfl) ?_

  have HS5 := Aside0.mk (HS.out.step HB5.out)
  have k0 : w5.cell? ⟨gp, 0, none⟩ = some (.slice (some ⟨bt, 0, none⟩) L.length ct) := (HB5.out.cell (p := ⟨gp, 0, none⟩) hgl).trans g0
  have k1 : w5.cell? ⟨bt, u * 3, none⟩ = some (.pointer (some ⟨xm.1, 0, none⟩)) := (HB5.out.cell (p := ⟨bt, u * 3, none⟩) hbt).trans y0
  have k2 : w5.cell? ⟨W.heap.size, 0, none⟩ = some (.int .i64 who) := HS5.out.cells.1
  have HZ := Aside0.mk (show W.heap.size ≤ w4.heap.size from HS.out.below.size)
  clear x0 x1 x2 x3 g0 y0 y1 y2 hbt hgl HS HF
  go_wp2
  go_ret2
  exact HS5.out.no HE.out
set_option maxHeartbeats 4000000 in
set_option maxRecDepth 100000 in
theorem send_e2 (h : PAt W base ρ t gp room mbs L) {who : Int} {A0 A1 A2 : Option Addr} {c0 c1 c2 : Nat} {S I own : List Int} (h0 : Rd W A0 c0 S) (h1 : Rd W A1 c1 I) (h2 : Rd W A2 c2 own) (hown : own.length ≤ 17592186044415) (tw : Int) (text : ByteArray) (op : Bool) (hbase : base ≤ W.heap.size) (hw : decide (0 ≤ who ∧ who < (L.length : Int)) = true) (ht : decide (0 ≤ tw ∧ tw < (L.length : Int)) = true) (hc : Cats own) (hm : May S I) (hl : ¬ 1024 < text.size) (hop : op = false) (hf : ¬ Within (lackL S tw) (if op then own else [])) :
    Calls Try.prog 9 #[.pointer (some ⟨gp, 0, none⟩), .agg #[.int .i64 who, .slice A0 S.length c0, .slice A1 I.length c1, .slice A2 own.length c2], .int .i64 tw, .string text, .bool op] W (SendPost W base ρ t gp room mbs (sendL L room who S I own tw text op)) := by
  have HX := Aside0.mk (show ∀ W1, W.alloc (.cells #[.int .i64 who, .slice A0 S.length c0, .slice A1 I.length c1, .slice A2 own.length c2] 34) = W1 → SE W base ρ t gp room mbs L who A0 c0 S A1 c1 I A2 c2 own W1 from fun W1 e => e ▸ SE.new h h0 h1 h2)
  have Hw := Aside0.mk hw
  have Ht := Aside0.mk ht
  have Ho := Aside0.mk hown
  have hwt : ¬ ¬ ((0 ≤ who ∧ who < (L.length : Int)) ∧ (0 ≤ tw ∧ tw < (L.length : Int))) := not_not_intro ⟨of_decide_eq_true hw, of_decide_eq_true ht⟩
  subst hop
  have Hf0 := Aside0.mk (flowsL_own hc)
  have Hc := Aside0.mk (show chkL S I = 0 from if_pos hm)
  have HE := Aside0.mk (show sendL L room who S I own tw text false = ([], 0, L) from by unfold sendL; rw [if_neg hwt, if_neg (not_not_intro hc), if_neg (not_not_intro hm), if_neg hl, if_pos hf])
  have d0 : decide ((text.size : Int) > 1024) = false := decide_eq_false (by omega)
  have d1 : decide (1024 < (text.size : Int)) = false := decide_eq_false (by omega)
  have d2 : decide (1024 < text.size) = false := decide_eq_false hl
  obtain ⟨u, rfl⟩ := Int.eq_ofNat_of_zero_le (of_decide_eq_true ht).1
  have hu : u < L.length := by have := (of_decide_eq_true ht).2; omega
  have hf16 := h.few
  have HU := Aside0.mk hu
  have Hf := Aside0.mk (show flowsL S [] [2 * (u : Int) + 1] [] ([] : List Int) = ([], 21) from by
    have hf' : ¬ Within (lacksL S [] [2 * (u : Int) + 1] []) ([] : List Int) := by simpa [lackL] using hf
    unfold flowsL
    rw [if_neg (not_not_intro ⟨may_left hm, may_to (of_decide_eq_true ht) (by omega)⟩), if_neg (not_not_intro cats_nil), if_pos hf'])
  have Hon := Aside0.mk (show (([] : List Int)).length ≤ 17592186044415 from by simp)
  have HBase := Aside0.mk hbase
  clear h h0 h1 h2 hw ht hc hwt hm hf hl hown hbase hf16
  go_enter Try.func9, Try.ntmps9
  go_wp2_with (first
    | (go_at_call 22; (with_reducible refine (PAt.is (HX.out _ rfl).p who _ Hw.out).mono ?_); rintro e w1 ⟨rfl, hw⟩; have HS := Aside0.mk (HX.out w1 hw); clear HX hw)
    | (go_at_call 22; (with_reducible refine (PAt.is HS.out.p _ _ Ht.out).mono ?_); rintro e w2 ⟨rfl, rfl⟩; obtain ⟨x0, x1, x2, x3⟩ := HS.out.cells)
    | (go_at_call 23; (with_reducible refine (flows0 HS.out.r2 Ho.out Hf0.out).mono ?_); rintro e w3 ⟨A3, c3, rfl, hR3, hb3⟩; clear hR3; have nS := Aside0.mk (HS.out.step hb3); clear HS hb3 x0 x1 x2 x3; have HS := nS; clear nS; obtain ⟨x0, x1, x2, x3⟩ := HS.out.cells)
    | (go_at_call 24; (with_reducible refine (checkR HS.out.r0 HS.out.r1 Hc.out).mono ?_); rintro e w4 ⟨rfl, hb4⟩; have nS := Aside0.mk (HS.out.step hb4); clear HS hb4 x0 x1 x2 x3; have HS := nS; clear nS; obtain ⟨x0, x1, x2, x3⟩ := HS.out.cells))
  obtain ⟨bt, ct, xm, hbx, hxm, _, y0, y1, y2, hbt⟩ := HS.out.p.cells HU.out
  have g0 : w4.cell? ⟨gp, 0, none⟩ = some (.slice (some ⟨bt, 0, none⟩) L.length ct) := blk_cell hbx 0
  have hgl := blk_lt hbx
  have HXm := Aside0.mk hxm
  have HF := Aside0.mk (flows2 (W := w4.drew) (HS.out.r0.step (below_drew (Below.refl _ _))) ((HS.out.lab hxm).step (below_drew (Below.refl _ _))) Hf.out)
  clear hbx hxm
  refine start_ (n := 19) (S := fun w' => w'.cell? ⟨W.heap.size, 1, none⟩ = some (.slice A0 S.length c0) ∧ w'.cell? ⟨gp, 0, none⟩ = some (.slice (some ⟨bt, 0, none⟩) L.length ct) ∧ w'.cell? ⟨bt, u * 3 + 1, none⟩ = some (.slice (some ⟨xm.2, 0, none⟩) 1 1) ∧ w'.cell? ⟨bt, u * 3 + 2, none⟩ = some (.slice none 0 0)) (ds := []) #[false, false, false, false, false, false, false, false, false, false, false, false, false, false, false, false, false, false, false] (by kernel_rfl) rfl rfl ⟨x1, g0, y1, y2⟩ (fun hHeld => ?_)
  refine pure_ (i := 0) (N := some 52) (v := ?_) (a' := ?_) #[true, false, false, false, false, false, false, false, false, false, false, false, false, false, false, false, false, false, false] rfl rfl (by kernel_rfl) (fun _ _ _ h => h) (Or.inl ⟨by rfl, ?_⟩) ?_ ?_
  rotate_left
  · intro w'
    go_simp
    with_reducible rfl
  rotate_left
  · simp only [Act.put, List.setIfInBounds_toArray, List.set_cons_zero, List.set_cons_succ, i64_w, i32_w]
    rfl
  refine pure_ (i := 1) (N := some 53) (v := ?_) (a' := ?_) #[true, true, false, false, false, false, false, false, false, false, false, false, false, false, false, false, false, false, false] rfl rfl (by kernel_rfl) (fun _ _ _ h => h) (Or.inl ⟨by rfl, ?_⟩) ?_ ?_
  rotate_left
  · intro w'
    go_simp
    with_reducible rfl
  rotate_left
  · simp only [Act.put, List.setIfInBounds_toArray, List.set_cons_zero, List.set_cons_succ, i64_w, i32_w]
    rfl
  refine pure_ (i := 4) (N := some 56) (v := ?_) (a' := ?_) #[true, true, false, false, true, false, false, false, false, false, false, false, false, false, false, false, false, false, false] rfl rfl (by kernel_rfl) (fun _ _ _ h => h) (Or.inl ⟨by rfl, ?_⟩) ?_ ?_
  rotate_left
  · intro w'
    go_simp
    with_reducible rfl
  rotate_left
  · simp only [Act.put, List.setIfInBounds_toArray, List.set_cons_zero, List.set_cons_succ, i64_w, i32_w]
    rfl
  refine pure_ (i := 5) (N := some 57) (v := ?_) (a' := ?_) #[true, true, false, false, true, true, false, false, false, false, false, false, false, false, false, false, false, false, false] rfl rfl (by kernel_rfl) (fun _ _ _ h => h) (Or.inl ⟨by rfl, ?_⟩) ?_ ?_
  rotate_left
  · intro w'
    go_simp
    with_reducible rfl
  rotate_left
  · simp only [Act.put, List.setIfInBounds_toArray, List.set_cons_zero, List.set_cons_succ, i64_w, i32_w]
    rfl
  refine pure_ (i := 6) (N := some 58) (v := ?_) (a' := ?_) #[true, true, false, false, true, true, true, false, false, false, false, false, false, false, false, false, false, false, false] rfl rfl (by kernel_rfl) (fun _ _ _ h => h) (Or.inl ⟨by rfl, ?_⟩) ?_ ?_
  rotate_left
  · intro w'
    go_simp
    with_reducible rfl
  rotate_left
  · simp only [Act.put, List.setIfInBounds_toArray, List.set_cons_zero, List.set_cons_succ, i64_w, i32_w]
    rfl
  refine pure_ (i := 8) (N := some 60) (v := ?_) (a' := ?_) #[true, true, false, false, true, true, true, false, true, false, false, false, false, false, false, false, false, false, false] rfl rfl (by kernel_rfl) (fun _ _ _ h => h) (Or.inl ⟨by rfl, ?_⟩) ?_ ?_
  rotate_left
  · intro w'
    go_simp
    with_reducible rfl
  rotate_left
  · simp only [Act.put, List.setIfInBounds_toArray, List.set_cons_zero, List.set_cons_succ, i64_w, i32_w]
    rfl
  refine pure_ (i := 12) (N := some 64) (v := ?_) (a' := ?_) #[true, true, false, false, true, true, true, false, true, false, false, false, true, false, false, false, false, false, false] rfl rfl (by kernel_rfl) (fun _ _ _ h => h) (Or.inl ⟨by rfl, ?_⟩) ?_ ?_
  rotate_left
  · intro w'
    go_simp
    with_reducible rfl
  rotate_left
  · simp only [Act.put, List.setIfInBounds_toArray, List.set_cons_zero, List.set_cons_succ, i64_w, i32_w]
    rfl
  refine take_ (i := 2) (N := some 54) (v := ?_) (a' := ?_) #[true, true, true, false, true, true, true, false, true, false, false, false, true, false, false, false, false, false, false] rfl rfl (by kernel_rfl) (fun _ _ _ h => h) (Or.inl ⟨by rfl, ?_⟩) hHeld ?_ ?_
  rotate_left
  · rintro w' ⟨s0, s1, s2, s3⟩
    go_simp
    with_reducible rfl
  rotate_left
  · simp only [Act.put, List.setIfInBounds_toArray, List.set_cons_zero, List.set_cons_succ, i64_w, i32_w]
    rfl
  refine pure_ (i := 3) (N := some 55) (v := ?_) (a' := ?_) #[true, true, true, true, true, true, true, false, true, false, false, false, true, false, false, false, false, false, false] rfl rfl (by kernel_rfl) (fun _ _ _ h => h) (Or.inl ⟨by rfl, ?_⟩) ?_ ?_
  rotate_left
  · intro w'
    go_simp
    with_reducible rfl
  rotate_left
  · simp only [Act.put, List.setIfInBounds_toArray, List.set_cons_zero, List.set_cons_succ, i64_w, i32_w]
    rfl
  refine take_ (i := 7) (N := some 59) (v := ?_) (a' := ?_) #[true, true, true, true, true, true, true, true, true, false, false, false, true, false, false, false, false, false, false] rfl rfl (by kernel_rfl) (fun _ _ _ h => h) (Or.inl ⟨by rfl, ?_⟩) hHeld ?_ ?_
  rotate_left
  · rintro w' ⟨s0, s1, s2, s3⟩
    go_simp
    with_reducible rfl
  rotate_left
  · simp only [Act.put, List.setIfInBounds_toArray, List.set_cons_zero, List.set_cons_succ, i64_w, i32_w]
    rfl
  refine pure_ (i := 9) (N := some 61) (v := ?_) (a' := ?_) #[true, true, true, true, true, true, true, true, true, true, false, false, true, false, false, false, false, false, false] rfl rfl (by kernel_rfl) (fun _ _ _ h => h) (Or.inl ⟨by rfl, ?_⟩) ?_ ?_
  rotate_left
  · intro w'
    go_simp
    with_reducible rfl
  rotate_left
  · simp only [Act.put, List.setIfInBounds_toArray, List.set_cons_zero, List.set_cons_succ, i64_w, i32_w]
    rfl
  refine pure_ (i := 10) (N := some 62) (v := ?_) (a' := ?_) #[true, true, true, true, true, true, true, true, true, true, true, false, true, false, false, false, false, false, false] rfl rfl (by kernel_rfl) (fun _ _ _ h => h) (Or.inl ⟨by rfl, ?_⟩) ?_ ?_
  rotate_left
  · intro w'
    go_simp
    with_reducible rfl
  rotate_left
  · simp only [Act.put, List.setIfInBounds_toArray, List.set_cons_zero, List.set_cons_succ, i64_w, i32_w]
    rfl
  refine take_ (i := 11) (N := some 63) (v := ?_) (a' := ?_) #[true, true, true, true, true, true, true, true, true, true, true, true, true, false, false, false, false, false, false] rfl rfl (by kernel_rfl) (fun _ _ _ h => h) (Or.inl ⟨by rfl, ?_⟩) hHeld ?_ ?_
  rotate_left
  · rintro w' ⟨s0, s1, s2, s3⟩
    go_simp
    with_reducible rfl
  rotate_left
  · simp only [Act.put, List.setIfInBounds_toArray, List.set_cons_zero, List.set_cons_succ, i64_w, i32_w]
    rfl
  refine one_ (i := 13) (N := some 65) #[true, true, true, true, true, true, true, true, true, true, true, true, true, true, false, false, false, false, false] rfl rfl (by kernel_rfl) (by decide) (fun K hK => ?_)
  refine goes_ Try.func23 (by kernel_rfl) rfl #[.agg #[.slice A0 S.length c0, .slice none 0 0], .agg #[.slice (some ⟨xm.2, 0, none⟩) 1 1, .slice none 0 0], .slice none 0 0] (by rfl) rfl rfl (by simp only [List.map_toArray, List.map_cons, List.map_nil]; rfl) ?_
  with_reducible refine (HF.out).mono ?_
  rintro e w5 ⟨A5, c5, rfl, hR5, hb5⟩
  refine ⟨_, rfl, ?_⟩
  have HR5 := Aside0.mk hR5
  have HB5 := Aside0.mk (below_step (W := w4.drew) (below_drew (Below.refl w4.heap.size w4)) hb5)
  clear hR5 hb5
  refine hK.out _ _ ⟨(HB5.out.cell (p := ⟨W.heap.size, 1, none⟩) (blk_lt HS.out.bx)).trans x1, (HB5.out.cell (p := ⟨gp, 0, none⟩) hgl).trans g0, (HB5.out.cell (p := ⟨bt, u * 3 + 1, none⟩) hbt).trans y1, (HB5.out.cell (p := ⟨bt, u * 3 + 2, none⟩) hbt).trans y2⟩ (fun hHeld => ?_)
  clear hK K
  refine norm_ (a' := ?_) ?_ ?_
  rotate_left
  · show Act.put _ (some 65) _ = _
    simp only [Act.put, List.setIfInBounds_toArray, List.set_cons_zero, List.set_cons_succ, i64_w, i32_w]
    rfl
  refine pure_ (i := 14) (N := some 51) (v := ?_) (a' := ?_) #[true, true, true, true, true, true, true, true, true, true, true, true, true, true, true, false, false, false, false] rfl rfl (by kernel_rfl) (fun _ _ _ h => h) (Or.inl ⟨by rfl, ?_⟩) ?_ ?_
  rotate_left
  · intro w'
    go_simp
    with_reducible rfl
  rotate_left
  · simp only [Act.put, List.setIfInBounds_toArray, List.set_cons_zero, List.set_cons_succ, i64_w, i32_w]
    rfl
  refine pure_ (i := 15) (N := some 66) (v := ?_) (a' := ?_) #[true, true, true, true, true, true, true, true, true, true, true, true, true, true, true, true, false, false, false] rfl rfl (by kernel_rfl) (fun _ _ _ h => h) (Or.inl ⟨by rfl, ?_⟩) ?_ ?_
  rotate_left
  · intro w'
    go_simp
    with_reducible rfl
  rotate_left
  · simp only [Act.put, List.setIfInBounds_toArray, List.set_cons_zero, List.set_cons_succ, i64_w, i32_w]
    rfl
  refine pure_ (i := 16) (N := some 67) (v := ?_) (a' := ?_) #[true, true, true, true, true, true, true, true, true, true, true, true, true, true, true, true, true, false, false] rfl rfl (by kernel_rfl) (fun _ _ _ h => h) (Or.inl ⟨by rfl, ?_⟩) ?_ ?_
  rotate_left
  · intro w'
    go_simp
    with_reducible rfl
  rotate_left
  · simp only [Act.put, List.setIfInBounds_toArray, List.set_cons_zero, List.set_cons_succ, i64_w, i32_w]
    rfl
  refine pure_ (i := 17) (N := some 16) (v := ?_) (a' := ?_) #[true, true, true, true, true, true, true, true, true, true, true, true, true, true, true, true, true, true, false] rfl rfl (by kernel_rfl) (fun _ _ _ h => h) (Or.inl ⟨by rfl, ?_⟩) ?_ ?_
  rotate_left
  · intro w'
    go_simp
    with_reducible rfl
  rotate_left
  · simp only [Act.put, List.setIfInBounds_toArray, List.set_cons_zero, List.set_cons_succ, i64_w, i32_w]
    rfl
  refine pure_ (i := 18) (N := some 17) (v := ?_) (a' := ?_) #[true, true, true, true, true, true, true, true, true, true, true, true, true, true, true, true, true, true, true] rfl rfl (by kernel_rfl) (fun _ _ _ h => h) (Or.inl ⟨by rfl, ?_⟩) ?_ ?_
  rotate_left
  · intro w'
    go_simp
    with_reducible rfl
  rotate_left
  · simp only [Act.put, List.setIfInBounds_toArray, List.set_cons_zero, List.set_cons_succ, i64_w, i32_w]
    rfl
  refine done_ (by kernel_rfl) ?_

  have HS5 := Aside0.mk (HS.out.step HB5.out)
  have k0 : w5.cell? ⟨gp, 0, none⟩ = some (.slice (some ⟨bt, 0, none⟩) L.length ct) := (HB5.out.cell (p := ⟨gp, 0, none⟩) hgl).trans g0
  have k1 : w5.cell? ⟨bt, u * 3, none⟩ = some (.pointer (some ⟨xm.1, 0, none⟩)) := (HB5.out.cell (p := ⟨bt, u * 3, none⟩) hbt).trans y0
  have k2 : w5.cell? ⟨W.heap.size, 0, none⟩ = some (.int .i64 who) := HS5.out.cells.1
  have HZ := Aside0.mk (show W.heap.size ≤ w4.heap.size from HS.out.below.size)
  clear x0 x1 x2 x3 g0 y0 y1 y2 hbt hgl HS HF
  go_wp2
  go_ret2
  exact HS5.out.no HE.out
set_option maxHeartbeats 4000000 in
set_option maxRecDepth 100000 in
theorem send_f1 (h : PAt W base ρ t gp room mbs L) {who : Int} {A0 A1 A2 : Option Addr} {c0 c1 c2 : Nat} {S I own : List Int} (h0 : Rd W A0 c0 S) (h1 : Rd W A1 c1 I) (h2 : Rd W A2 c2 own) (hown : own.length ≤ 17592186044415) (tw : Int) (text : ByteArray) (op : Bool) (hbase : base ≤ W.heap.size) (hw : decide (0 ≤ who ∧ who < (L.length : Int)) = true) (ht : decide (0 ≤ tw ∧ tw < (L.length : Int)) = true) (hc : Cats own) (hm : May S I) (hl : ¬ 1024 < text.size) (hop : op = true) (hf : Within (lackL S tw) (if op then own else [])) :
    Calls Try.prog 9 #[.pointer (some ⟨gp, 0, none⟩), .agg #[.int .i64 who, .slice A0 S.length c0, .slice A1 I.length c1, .slice A2 own.length c2], .int .i64 tw, .string text, .bool op] W (SendPost W base ρ t gp room mbs (sendL L room who S I own tw text op)) := by
  have HX := Aside0.mk (show ∀ W1, W.alloc (.cells #[.int .i64 who, .slice A0 S.length c0, .slice A1 I.length c1, .slice A2 own.length c2] 34) = W1 → SE W base ρ t gp room mbs L who A0 c0 S A1 c1 I A2 c2 own W1 from fun W1 e => e ▸ SE.new h h0 h1 h2)
  have Hw := Aside0.mk hw
  have Ht := Aside0.mk ht
  have Ho := Aside0.mk hown
  have hwt : ¬ ¬ ((0 ≤ who ∧ who < (L.length : Int)) ∧ (0 ≤ tw ∧ tw < (L.length : Int))) := not_not_intro ⟨of_decide_eq_true hw, of_decide_eq_true ht⟩
  subst hop
  have Hf0 := Aside0.mk (flowsL_own hc)
  have Hc := Aside0.mk (show chkL S I = 0 from if_pos hm)
  have HE := Aside0.mk (show sendL L room who S I own tw text true = (lackL S tw, 0, pushL L room tw.toNat (who, text)) from by unfold sendL; rw [if_neg hwt, if_neg (not_not_intro hc), if_neg (not_not_intro hm), if_neg hl, if_neg (not_not_intro hf)])
  have d0 : decide ((text.size : Int) > 1024) = false := decide_eq_false (by omega)
  have d1 : decide (1024 < (text.size : Int)) = false := decide_eq_false (by omega)
  have d2 : decide (1024 < text.size) = false := decide_eq_false hl
  obtain ⟨u, rfl⟩ := Int.eq_ofNat_of_zero_le (of_decide_eq_true ht).1
  have hu : u < L.length := by have := (of_decide_eq_true ht).2; omega
  have hf16 := h.few
  have HU := Aside0.mk hu
  have Hf := Aside0.mk (show flowsL S [] [2 * (u : Int) + 1] [] own = (lackL S (u : Int), 0) from by
    have hf' : Within (lacksL S [] [2 * (u : Int) + 1] []) own := by simpa [lackL] using hf
    unfold flowsL
    rw [if_neg (not_not_intro ⟨may_left hm, may_to (of_decide_eq_true ht) (by omega)⟩), if_neg (not_not_intro hc), if_neg (not_not_intro hf')]; rfl)
  have Hon := Aside0.mk (show (own).length ≤ 17592186044415 from hown)
  have HBase := Aside0.mk hbase
  clear h h0 h1 h2 hw ht hc hwt hm hf hl hown hbase hf16
  go_enter Try.func9, Try.ntmps9
  go_wp2_with (first
    | (go_at_call 22; (with_reducible refine (PAt.is (HX.out _ rfl).p who _ Hw.out).mono ?_); rintro e w1 ⟨rfl, hw⟩; have HS := Aside0.mk (HX.out w1 hw); clear HX hw)
    | (go_at_call 22; (with_reducible refine (PAt.is HS.out.p _ _ Ht.out).mono ?_); rintro e w2 ⟨rfl, rfl⟩; obtain ⟨x0, x1, x2, x3⟩ := HS.out.cells)
    | (go_at_call 23; (with_reducible refine (flows0 HS.out.r2 Ho.out Hf0.out).mono ?_); rintro e w3 ⟨A3, c3, rfl, hR3, hb3⟩; clear hR3; have nS := Aside0.mk (HS.out.step hb3); clear HS hb3 x0 x1 x2 x3; have HS := nS; clear nS; obtain ⟨x0, x1, x2, x3⟩ := HS.out.cells)
    | (go_at_call 24; (with_reducible refine (checkR HS.out.r0 HS.out.r1 Hc.out).mono ?_); rintro e w4 ⟨rfl, hb4⟩; have nS := Aside0.mk (HS.out.step hb4); clear HS hb4 x0 x1 x2 x3; have HS := nS; clear nS; obtain ⟨x0, x1, x2, x3⟩ := HS.out.cells))
  obtain ⟨bt, ct, xm, hbx, hxm, _, y0, y1, y2, hbt⟩ := HS.out.p.cells HU.out
  have g0 : w4.cell? ⟨gp, 0, none⟩ = some (.slice (some ⟨bt, 0, none⟩) L.length ct) := blk_cell hbx 0
  have hgl := blk_lt hbx
  have HXm := Aside0.mk hxm
  have HF := Aside0.mk (flows1 (W := w4.drew) (HS.out.r0.step (below_drew (Below.refl _ _))) ((HS.out.lab hxm).step (below_drew (Below.refl _ _))) (HS.out.r2.step (below_drew (Below.refl _ _))) Hon.out Hf.out)
  clear hbx hxm
  refine start_ (n := 19) (S := fun w' => w'.cell? ⟨W.heap.size, 1, none⟩ = some (.slice A0 S.length c0) ∧ w'.cell? ⟨gp, 0, none⟩ = some (.slice (some ⟨bt, 0, none⟩) L.length ct) ∧ w'.cell? ⟨bt, u * 3 + 1, none⟩ = some (.slice (some ⟨xm.2, 0, none⟩) 1 1) ∧ w'.cell? ⟨bt, u * 3 + 2, none⟩ = some (.slice none 0 0)) (ds := []) #[false, false, false, false, false, false, false, false, false, false, false, false, false, false, false, false, false, false, false] (by kernel_rfl) rfl rfl ⟨x1, g0, y1, y2⟩ (fun hHeld => ?_)
  refine pure_ (i := 0) (N := some 52) (v := ?_) (a' := ?_) #[true, false, false, false, false, false, false, false, false, false, false, false, false, false, false, false, false, false, false] rfl rfl (by kernel_rfl) (fun _ _ _ h => h) (Or.inl ⟨by rfl, ?_⟩) ?_ ?_
  rotate_left
  · intro w'
    go_simp
    with_reducible rfl
  rotate_left
  · simp only [Act.put, List.setIfInBounds_toArray, List.set_cons_zero, List.set_cons_succ, i64_w, i32_w]
    rfl
  refine pure_ (i := 1) (N := some 53) (v := ?_) (a' := ?_) #[true, true, false, false, false, false, false, false, false, false, false, false, false, false, false, false, false, false, false] rfl rfl (by kernel_rfl) (fun _ _ _ h => h) (Or.inl ⟨by rfl, ?_⟩) ?_ ?_
  rotate_left
  · intro w'
    go_simp
    with_reducible rfl
  rotate_left
  · simp only [Act.put, List.setIfInBounds_toArray, List.set_cons_zero, List.set_cons_succ, i64_w, i32_w]
    rfl
  refine pure_ (i := 4) (N := some 56) (v := ?_) (a' := ?_) #[true, true, false, false, true, false, false, false, false, false, false, false, false, false, false, false, false, false, false] rfl rfl (by kernel_rfl) (fun _ _ _ h => h) (Or.inl ⟨by rfl, ?_⟩) ?_ ?_
  rotate_left
  · intro w'
    go_simp
    with_reducible rfl
  rotate_left
  · simp only [Act.put, List.setIfInBounds_toArray, List.set_cons_zero, List.set_cons_succ, i64_w, i32_w]
    rfl
  refine pure_ (i := 5) (N := some 57) (v := ?_) (a' := ?_) #[true, true, false, false, true, true, false, false, false, false, false, false, false, false, false, false, false, false, false] rfl rfl (by kernel_rfl) (fun _ _ _ h => h) (Or.inl ⟨by rfl, ?_⟩) ?_ ?_
  rotate_left
  · intro w'
    go_simp
    with_reducible rfl
  rotate_left
  · simp only [Act.put, List.setIfInBounds_toArray, List.set_cons_zero, List.set_cons_succ, i64_w, i32_w]
    rfl
  refine pure_ (i := 6) (N := some 58) (v := ?_) (a' := ?_) #[true, true, false, false, true, true, true, false, false, false, false, false, false, false, false, false, false, false, false] rfl rfl (by kernel_rfl) (fun _ _ _ h => h) (Or.inl ⟨by rfl, ?_⟩) ?_ ?_
  rotate_left
  · intro w'
    go_simp
    with_reducible rfl
  rotate_left
  · simp only [Act.put, List.setIfInBounds_toArray, List.set_cons_zero, List.set_cons_succ, i64_w, i32_w]
    rfl
  refine pure_ (i := 8) (N := some 60) (v := ?_) (a' := ?_) #[true, true, false, false, true, true, true, false, true, false, false, false, false, false, false, false, false, false, false] rfl rfl (by kernel_rfl) (fun _ _ _ h => h) (Or.inl ⟨by rfl, ?_⟩) ?_ ?_
  rotate_left
  · intro w'
    go_simp
    with_reducible rfl
  rotate_left
  · simp only [Act.put, List.setIfInBounds_toArray, List.set_cons_zero, List.set_cons_succ, i64_w, i32_w]
    rfl
  refine pure_ (i := 12) (N := some 64) (v := ?_) (a' := ?_) #[true, true, false, false, true, true, true, false, true, false, false, false, true, false, false, false, false, false, false] rfl rfl (by kernel_rfl) (fun _ _ _ h => h) (Or.inl ⟨by rfl, ?_⟩) ?_ ?_
  rotate_left
  · intro w'
    go_simp
    with_reducible rfl
  rotate_left
  · simp only [Act.put, List.setIfInBounds_toArray, List.set_cons_zero, List.set_cons_succ, i64_w, i32_w]
    rfl
  refine take_ (i := 2) (N := some 54) (v := ?_) (a' := ?_) #[true, true, true, false, true, true, true, false, true, false, false, false, true, false, false, false, false, false, false] rfl rfl (by kernel_rfl) (fun _ _ _ h => h) (Or.inl ⟨by rfl, ?_⟩) hHeld ?_ ?_
  rotate_left
  · rintro w' ⟨s0, s1, s2, s3⟩
    go_simp
    with_reducible rfl
  rotate_left
  · simp only [Act.put, List.setIfInBounds_toArray, List.set_cons_zero, List.set_cons_succ, i64_w, i32_w]
    rfl
  refine pure_ (i := 3) (N := some 55) (v := ?_) (a' := ?_) #[true, true, true, true, true, true, true, false, true, false, false, false, true, false, false, false, false, false, false] rfl rfl (by kernel_rfl) (fun _ _ _ h => h) (Or.inl ⟨by rfl, ?_⟩) ?_ ?_
  rotate_left
  · intro w'
    go_simp
    with_reducible rfl
  rotate_left
  · simp only [Act.put, List.setIfInBounds_toArray, List.set_cons_zero, List.set_cons_succ, i64_w, i32_w]
    rfl
  refine take_ (i := 7) (N := some 59) (v := ?_) (a' := ?_) #[true, true, true, true, true, true, true, true, true, false, false, false, true, false, false, false, false, false, false] rfl rfl (by kernel_rfl) (fun _ _ _ h => h) (Or.inl ⟨by rfl, ?_⟩) hHeld ?_ ?_
  rotate_left
  · rintro w' ⟨s0, s1, s2, s3⟩
    go_simp
    with_reducible rfl
  rotate_left
  · simp only [Act.put, List.setIfInBounds_toArray, List.set_cons_zero, List.set_cons_succ, i64_w, i32_w]
    rfl
  refine pure_ (i := 9) (N := some 61) (v := ?_) (a' := ?_) #[true, true, true, true, true, true, true, true, true, true, false, false, true, false, false, false, false, false, false] rfl rfl (by kernel_rfl) (fun _ _ _ h => h) (Or.inl ⟨by rfl, ?_⟩) ?_ ?_
  rotate_left
  · intro w'
    go_simp
    with_reducible rfl
  rotate_left
  · simp only [Act.put, List.setIfInBounds_toArray, List.set_cons_zero, List.set_cons_succ, i64_w, i32_w]
    rfl
  refine pure_ (i := 10) (N := some 62) (v := ?_) (a' := ?_) #[true, true, true, true, true, true, true, true, true, true, true, false, true, false, false, false, false, false, false] rfl rfl (by kernel_rfl) (fun _ _ _ h => h) (Or.inl ⟨by rfl, ?_⟩) ?_ ?_
  rotate_left
  · intro w'
    go_simp
    with_reducible rfl
  rotate_left
  · simp only [Act.put, List.setIfInBounds_toArray, List.set_cons_zero, List.set_cons_succ, i64_w, i32_w]
    rfl
  refine take_ (i := 11) (N := some 63) (v := ?_) (a' := ?_) #[true, true, true, true, true, true, true, true, true, true, true, true, true, false, false, false, false, false, false] rfl rfl (by kernel_rfl) (fun _ _ _ h => h) (Or.inl ⟨by rfl, ?_⟩) hHeld ?_ ?_
  rotate_left
  · rintro w' ⟨s0, s1, s2, s3⟩
    go_simp
    with_reducible rfl
  rotate_left
  · simp only [Act.put, List.setIfInBounds_toArray, List.set_cons_zero, List.set_cons_succ, i64_w, i32_w]
    rfl
  refine one_ (i := 13) (N := some 65) #[true, true, true, true, true, true, true, true, true, true, true, true, true, true, false, false, false, false, false] rfl rfl (by kernel_rfl) (by decide) (fun K hK => ?_)
  refine goes_ Try.func23 (by kernel_rfl) rfl #[.agg #[.slice A0 S.length c0, .slice none 0 0], .agg #[.slice (some ⟨xm.2, 0, none⟩) 1 1, .slice none 0 0], .slice A2 own.length c2] (by rfl) rfl rfl (by simp only [List.map_toArray, List.map_cons, List.map_nil]; rfl) ?_
  with_reducible refine (HF.out).mono ?_
  rintro e w5 ⟨A5, c5, rfl, hR5, hb5⟩
  refine ⟨_, rfl, ?_⟩
  have HR5 := Aside0.mk hR5
  have HB5 := Aside0.mk (below_step (W := w4.drew) (below_drew (Below.refl w4.heap.size w4)) hb5)
  clear hR5 hb5
  refine hK.out _ _ ⟨(HB5.out.cell (p := ⟨W.heap.size, 1, none⟩) (blk_lt HS.out.bx)).trans x1, (HB5.out.cell (p := ⟨gp, 0, none⟩) hgl).trans g0, (HB5.out.cell (p := ⟨bt, u * 3 + 1, none⟩) hbt).trans y1, (HB5.out.cell (p := ⟨bt, u * 3 + 2, none⟩) hbt).trans y2⟩ (fun hHeld => ?_)
  clear hK K
  refine norm_ (a' := ?_) ?_ ?_
  rotate_left
  · show Act.put _ (some 65) _ = _
    simp only [Act.put, List.setIfInBounds_toArray, List.set_cons_zero, List.set_cons_succ, i64_w, i32_w]
    rfl
  refine pure_ (i := 14) (N := some 51) (v := ?_) (a' := ?_) #[true, true, true, true, true, true, true, true, true, true, true, true, true, true, true, false, false, false, false] rfl rfl (by kernel_rfl) (fun _ _ _ h => h) (Or.inl ⟨by rfl, ?_⟩) ?_ ?_
  rotate_left
  · intro w'
    go_simp
    with_reducible rfl
  rotate_left
  · simp only [Act.put, List.setIfInBounds_toArray, List.set_cons_zero, List.set_cons_succ, i64_w, i32_w]
    rfl
  refine pure_ (i := 15) (N := some 66) (v := ?_) (a' := ?_) #[true, true, true, true, true, true, true, true, true, true, true, true, true, true, true, true, false, false, false] rfl rfl (by kernel_rfl) (fun _ _ _ h => h) (Or.inl ⟨by rfl, ?_⟩) ?_ ?_
  rotate_left
  · intro w'
    go_simp
    with_reducible rfl
  rotate_left
  · simp only [Act.put, List.setIfInBounds_toArray, List.set_cons_zero, List.set_cons_succ, i64_w, i32_w]
    rfl
  refine pure_ (i := 16) (N := some 67) (v := ?_) (a' := ?_) #[true, true, true, true, true, true, true, true, true, true, true, true, true, true, true, true, true, false, false] rfl rfl (by kernel_rfl) (fun _ _ _ h => h) (Or.inl ⟨by rfl, ?_⟩) ?_ ?_
  rotate_left
  · intro w'
    go_simp
    with_reducible rfl
  rotate_left
  · simp only [Act.put, List.setIfInBounds_toArray, List.set_cons_zero, List.set_cons_succ, i64_w, i32_w]
    rfl
  refine pure_ (i := 17) (N := some 16) (v := ?_) (a' := ?_) #[true, true, true, true, true, true, true, true, true, true, true, true, true, true, true, true, true, true, false] rfl rfl (by kernel_rfl) (fun _ _ _ h => h) (Or.inl ⟨by rfl, ?_⟩) ?_ ?_
  rotate_left
  · intro w'
    go_simp
    with_reducible rfl
  rotate_left
  · simp only [Act.put, List.setIfInBounds_toArray, List.set_cons_zero, List.set_cons_succ, i64_w, i32_w]
    rfl
  refine pure_ (i := 18) (N := some 17) (v := ?_) (a' := ?_) #[true, true, true, true, true, true, true, true, true, true, true, true, true, true, true, true, true, true, true] rfl rfl (by kernel_rfl) (fun _ _ _ h => h) (Or.inl ⟨by rfl, ?_⟩) ?_ ?_
  rotate_left
  · intro w'
    go_simp
    with_reducible rfl
  rotate_left
  · simp only [Act.put, List.setIfInBounds_toArray, List.set_cons_zero, List.set_cons_succ, i64_w, i32_w]
    rfl
  refine done_ (by kernel_rfl) ?_

  have HS5 := Aside0.mk (HS.out.step HB5.out)
  have k0 : w5.cell? ⟨gp, 0, none⟩ = some (.slice (some ⟨bt, 0, none⟩) L.length ct) := (HB5.out.cell (p := ⟨gp, 0, none⟩) hgl).trans g0
  have k1 : w5.cell? ⟨bt, u * 3, none⟩ = some (.pointer (some ⟨xm.1, 0, none⟩)) := (HB5.out.cell (p := ⟨bt, u * 3, none⟩) hbt).trans y0
  have k2 : w5.cell? ⟨W.heap.size, 0, none⟩ = some (.int .i64 who) := HS5.out.cells.1
  have HZ := Aside0.mk (show W.heap.size ≤ w4.heap.size from HS.out.below.size)
  clear x0 x1 x2 x3 g0 y0 y1 y2 hbt hgl HS HF
  go_wp2
  have HP := Aside0.mk ((HS5.out.step (below_drew (Below.refl _ _))).push (Wx := w5.drew) (W2 := w4.drew) HXm.out HZ.out (Kd.R_drew HR5.out) (who, text) HBase.out)
  refine start_ (n := 13) (S := fun w' => w'.cell? ⟨gp, 0, none⟩ = some (.slice (some ⟨bt, 0, none⟩) L.length ct) ∧ w'.cell? ⟨bt, u * 3, none⟩ = some (.pointer (some ⟨xm.1, 0, none⟩)) ∧ w'.cell? ⟨W.heap.size, 0, none⟩ = some (.int .i64 who)) (ds := [12]) #[false, false, false, false, false, false, false, false, false, false, false, false, false] (by kernel_rfl) rfl rfl ⟨k0, k1, k2⟩ (fun hHeld => ?_)
  refine pure_ (i := 0) (N := some 70) (v := ?_) (a' := ?_) #[true, false, false, false, false, false, false, false, false, false, false, false, false] rfl rfl (by kernel_rfl) (fun _ _ _ h => h) (Or.inl ⟨by rfl, ?_⟩) ?_ ?_
  rotate_left
  · intro w'
    go_simp
    with_reducible rfl
  rotate_left
  · simp only [Act.put, List.setIfInBounds_toArray, List.set_cons_zero, List.set_cons_succ, i64_w, i32_w]
    rfl
  refine pure_ (i := 1) (N := some 71) (v := ?_) (a' := ?_) #[true, true, false, false, false, false, false, false, false, false, false, false, false] rfl rfl (by kernel_rfl) (fun _ _ _ h => h) (Or.inl ⟨by rfl, ?_⟩) ?_ ?_
  rotate_left
  · intro w'
    go_simp
    with_reducible rfl
  rotate_left
  · simp only [Act.put, List.setIfInBounds_toArray, List.set_cons_zero, List.set_cons_succ, i64_w, i32_w]
    rfl
  refine pure_ (i := 2) (N := some 72) (v := ?_) (a' := ?_) #[true, true, true, false, false, false, false, false, false, false, false, false, false] rfl rfl (by kernel_rfl) (fun _ _ _ h => h) (Or.inl ⟨by rfl, ?_⟩) ?_ ?_
  rotate_left
  · intro w'
    go_simp
    with_reducible rfl
  rotate_left
  · simp only [Act.put, List.setIfInBounds_toArray, List.set_cons_zero, List.set_cons_succ, i64_w, i32_w]
    rfl
  refine pure_ (i := 4) (N := some 74) (v := ?_) (a' := ?_) #[true, true, true, false, true, false, false, false, false, false, false, false, false] rfl rfl (by kernel_rfl) (fun _ _ _ h => h) (Or.inl ⟨by rfl, ?_⟩) ?_ ?_
  rotate_left
  · intro w'
    go_simp
    with_reducible rfl
  rotate_left
  · simp only [Act.put, List.setIfInBounds_toArray, List.set_cons_zero, List.set_cons_succ, i64_w, i32_w]
    rfl
  refine pure_ (i := 8) (N := some 78) (v := ?_) (a' := ?_) #[true, true, true, false, true, false, false, false, true, false, false, false, false] rfl rfl (by kernel_rfl) (fun _ _ _ h => h) (Or.inl ⟨by rfl, ?_⟩) ?_ ?_
  rotate_left
  · intro w'
    go_simp
    with_reducible rfl
  rotate_left
  · simp only [Act.put, List.setIfInBounds_toArray, List.set_cons_zero, List.set_cons_succ, i64_w, i32_w]
    rfl
  refine pure_ (i := 10) (N := some 80) (v := ?_) (a' := ?_) #[true, true, true, false, true, false, false, false, true, false, true, false, false] rfl rfl (by kernel_rfl) (fun _ _ _ h => h) (Or.inl ⟨by rfl, ?_⟩) ?_ ?_
  rotate_left
  · intro w'
    go_simp
    with_reducible rfl
  rotate_left
  · simp only [Act.put, List.setIfInBounds_toArray, List.set_cons_zero, List.set_cons_succ, i64_w, i32_w]
    rfl
  refine take_ (i := 3) (N := some 73) (v := ?_) (a' := ?_) #[true, true, true, true, true, false, false, false, true, false, true, false, false] rfl rfl (by kernel_rfl) (fun _ _ _ h => h) (Or.inl ⟨by rfl, ?_⟩) hHeld ?_ ?_
  rotate_left
  · rintro w' ⟨s0, s1, s2⟩
    go_simp
    with_reducible rfl
  rotate_left
  · simp only [Act.put, List.setIfInBounds_toArray, List.set_cons_zero, List.set_cons_succ, i64_w, i32_w]
    rfl
  refine pure_ (i := 5) (N := some 75) (v := ?_) (a' := ?_) #[true, true, true, true, true, true, false, false, true, false, true, false, false] rfl rfl (by kernel_rfl) (fun _ _ _ h => h) (Or.inl ⟨by rfl, ?_⟩) ?_ ?_
  rotate_left
  · intro w'
    go_simp
    with_reducible rfl
  rotate_left
  · simp only [Act.put, List.setIfInBounds_toArray, List.set_cons_zero, List.set_cons_succ, i64_w, i32_w]
    rfl
  refine pure_ (i := 6) (N := some 76) (v := ?_) (a' := ?_) #[true, true, true, true, true, true, true, false, true, false, true, false, false] rfl rfl (by kernel_rfl) (fun _ _ _ h => h) (Or.inl ⟨by rfl, ?_⟩) ?_ ?_
  rotate_left
  · intro w'
    go_simp
    with_reducible rfl
  rotate_left
  · simp only [Act.put, List.setIfInBounds_toArray, List.set_cons_zero, List.set_cons_succ, i64_w, i32_w]
    rfl
  refine take_ (i := 7) (N := some 77) (v := ?_) (a' := ?_) #[true, true, true, true, true, true, true, true, true, false, true, false, false] rfl rfl (by kernel_rfl) (fun _ _ _ h => h) (Or.inl ⟨by rfl, ?_⟩) hHeld ?_ ?_
  rotate_left
  · rintro w' ⟨s0, s1, s2⟩
    go_simp
    with_reducible rfl
  rotate_left
  · simp only [Act.put, List.setIfInBounds_toArray, List.set_cons_zero, List.set_cons_succ, i64_w, i32_w]
    rfl
  refine take_ (i := 9) (N := some 79) (v := ?_) (a' := ?_) #[true, true, true, true, true, true, true, true, true, true, true, false, false] rfl rfl (by kernel_rfl) (fun _ _ _ h => h) (Or.inl ⟨by rfl, ?_⟩) hHeld ?_ ?_
  rotate_left
  · rintro w' ⟨s0, s1, s2⟩
    go_simp
    with_reducible rfl
  rotate_left
  · simp only [Act.put, List.setIfInBounds_toArray, List.set_cons_zero, List.set_cons_succ, i64_w, i32_w]
    rfl
  refine pure_ (i := 11) (N := some 81) (v := ?_) (a' := ?_) #[true, true, true, true, true, true, true, true, true, true, true, true, false] rfl rfl (by kernel_rfl) (fun _ _ _ h => h) (Or.inl ⟨by rfl, ?_⟩) ?_ ?_
  rotate_left
  · intro w'
    go_simp
    with_reducible rfl
  rotate_left
  · simp only [Act.put, List.setIfInBounds_toArray, List.set_cons_zero, List.set_cons_succ, i64_w, i32_w]
    rfl
  refine last_ (i := 12) (N := some 82) #[true, true, true, true, true, true, true, true, true, true, true, true, true] rfl rfl (by kernel_rfl) (by decide) (fun K hK => ?_)
  refine goes_ Try.func25 (by kernel_rfl) rfl #[.pointer (some ⟨xm.1, 0, none⟩), .agg #[.int .i64 who, .string text]] (by rfl) rfl rfl (by simp only [List.map_toArray, List.map_cons, List.map_nil]; rfl) ?_
  with_reducible refine (HP.out).mono ?_
  rintro e w6 ⟨⟨b6, rfl⟩, hS6⟩
  refine ⟨_, rfl, ?_⟩
  have HS6 := Aside0.mk hS6
  clear hS6
  refine hK.out _ _ ?_
  clear hK K
  refine norm_ (a' := ?_) ?_ ?_
  rotate_left
  · show Act.put _ (some 82) _ = _
    simp only [Act.put, List.setIfInBounds_toArray, List.set_cons_zero, List.set_cons_succ, i64_w, i32_w]
    rfl
  refine done_ (by kernel_rfl) ?_

  go_wp2
  go_ret2
  rw [HE.out]
  exact HS6.out
set_option maxHeartbeats 4000000 in
set_option maxRecDepth 100000 in
theorem send_f2 (h : PAt W base ρ t gp room mbs L) {who : Int} {A0 A1 A2 : Option Addr} {c0 c1 c2 : Nat} {S I own : List Int} (h0 : Rd W A0 c0 S) (h1 : Rd W A1 c1 I) (h2 : Rd W A2 c2 own) (hown : own.length ≤ 17592186044415) (tw : Int) (text : ByteArray) (op : Bool) (hbase : base ≤ W.heap.size) (hw : decide (0 ≤ who ∧ who < (L.length : Int)) = true) (ht : decide (0 ≤ tw ∧ tw < (L.length : Int)) = true) (hc : Cats own) (hm : May S I) (hl : ¬ 1024 < text.size) (hop : op = false) (hf : Within (lackL S tw) (if op then own else [])) :
    Calls Try.prog 9 #[.pointer (some ⟨gp, 0, none⟩), .agg #[.int .i64 who, .slice A0 S.length c0, .slice A1 I.length c1, .slice A2 own.length c2], .int .i64 tw, .string text, .bool op] W (SendPost W base ρ t gp room mbs (sendL L room who S I own tw text op)) := by
  have HX := Aside0.mk (show ∀ W1, W.alloc (.cells #[.int .i64 who, .slice A0 S.length c0, .slice A1 I.length c1, .slice A2 own.length c2] 34) = W1 → SE W base ρ t gp room mbs L who A0 c0 S A1 c1 I A2 c2 own W1 from fun W1 e => e ▸ SE.new h h0 h1 h2)
  have Hw := Aside0.mk hw
  have Ht := Aside0.mk ht
  have Ho := Aside0.mk hown
  have hwt : ¬ ¬ ((0 ≤ who ∧ who < (L.length : Int)) ∧ (0 ≤ tw ∧ tw < (L.length : Int))) := not_not_intro ⟨of_decide_eq_true hw, of_decide_eq_true ht⟩
  subst hop
  have Hf0 := Aside0.mk (flowsL_own hc)
  have Hc := Aside0.mk (show chkL S I = 0 from if_pos hm)
  have HE := Aside0.mk (show sendL L room who S I own tw text false = (lackL S tw, 0, pushL L room tw.toNat (who, text)) from by unfold sendL; rw [if_neg hwt, if_neg (not_not_intro hc), if_neg (not_not_intro hm), if_neg hl, if_neg (not_not_intro hf)])
  have d0 : decide ((text.size : Int) > 1024) = false := decide_eq_false (by omega)
  have d1 : decide (1024 < (text.size : Int)) = false := decide_eq_false (by omega)
  have d2 : decide (1024 < text.size) = false := decide_eq_false hl
  obtain ⟨u, rfl⟩ := Int.eq_ofNat_of_zero_le (of_decide_eq_true ht).1
  have hu : u < L.length := by have := (of_decide_eq_true ht).2; omega
  have hf16 := h.few
  have HU := Aside0.mk hu
  have Hf := Aside0.mk (show flowsL S [] [2 * (u : Int) + 1] [] ([] : List Int) = (lackL S (u : Int), 0) from by
    have hf' : Within (lacksL S [] [2 * (u : Int) + 1] []) ([] : List Int) := by simpa [lackL] using hf
    unfold flowsL
    rw [if_neg (not_not_intro ⟨may_left hm, may_to (of_decide_eq_true ht) (by omega)⟩), if_neg (not_not_intro cats_nil), if_neg (not_not_intro hf')]; rfl)
  have Hon := Aside0.mk (show (([] : List Int)).length ≤ 17592186044415 from by simp)
  have HBase := Aside0.mk hbase
  clear h h0 h1 h2 hw ht hc hwt hm hf hl hown hbase hf16
  go_enter Try.func9, Try.ntmps9
  go_wp2_with (first
    | (go_at_call 22; (with_reducible refine (PAt.is (HX.out _ rfl).p who _ Hw.out).mono ?_); rintro e w1 ⟨rfl, hw⟩; have HS := Aside0.mk (HX.out w1 hw); clear HX hw)
    | (go_at_call 22; (with_reducible refine (PAt.is HS.out.p _ _ Ht.out).mono ?_); rintro e w2 ⟨rfl, rfl⟩; obtain ⟨x0, x1, x2, x3⟩ := HS.out.cells)
    | (go_at_call 23; (with_reducible refine (flows0 HS.out.r2 Ho.out Hf0.out).mono ?_); rintro e w3 ⟨A3, c3, rfl, hR3, hb3⟩; clear hR3; have nS := Aside0.mk (HS.out.step hb3); clear HS hb3 x0 x1 x2 x3; have HS := nS; clear nS; obtain ⟨x0, x1, x2, x3⟩ := HS.out.cells)
    | (go_at_call 24; (with_reducible refine (checkR HS.out.r0 HS.out.r1 Hc.out).mono ?_); rintro e w4 ⟨rfl, hb4⟩; have nS := Aside0.mk (HS.out.step hb4); clear HS hb4 x0 x1 x2 x3; have HS := nS; clear nS; obtain ⟨x0, x1, x2, x3⟩ := HS.out.cells))
  obtain ⟨bt, ct, xm, hbx, hxm, _, y0, y1, y2, hbt⟩ := HS.out.p.cells HU.out
  have g0 : w4.cell? ⟨gp, 0, none⟩ = some (.slice (some ⟨bt, 0, none⟩) L.length ct) := blk_cell hbx 0
  have hgl := blk_lt hbx
  have HXm := Aside0.mk hxm
  have HF := Aside0.mk (flows2 (W := w4.drew) (HS.out.r0.step (below_drew (Below.refl _ _))) ((HS.out.lab hxm).step (below_drew (Below.refl _ _))) Hf.out)
  clear hbx hxm
  refine start_ (n := 19) (S := fun w' => w'.cell? ⟨W.heap.size, 1, none⟩ = some (.slice A0 S.length c0) ∧ w'.cell? ⟨gp, 0, none⟩ = some (.slice (some ⟨bt, 0, none⟩) L.length ct) ∧ w'.cell? ⟨bt, u * 3 + 1, none⟩ = some (.slice (some ⟨xm.2, 0, none⟩) 1 1) ∧ w'.cell? ⟨bt, u * 3 + 2, none⟩ = some (.slice none 0 0)) (ds := []) #[false, false, false, false, false, false, false, false, false, false, false, false, false, false, false, false, false, false, false] (by kernel_rfl) rfl rfl ⟨x1, g0, y1, y2⟩ (fun hHeld => ?_)
  refine pure_ (i := 0) (N := some 52) (v := ?_) (a' := ?_) #[true, false, false, false, false, false, false, false, false, false, false, false, false, false, false, false, false, false, false] rfl rfl (by kernel_rfl) (fun _ _ _ h => h) (Or.inl ⟨by rfl, ?_⟩) ?_ ?_
  rotate_left
  · intro w'
    go_simp
    with_reducible rfl
  rotate_left
  · simp only [Act.put, List.setIfInBounds_toArray, List.set_cons_zero, List.set_cons_succ, i64_w, i32_w]
    rfl
  refine pure_ (i := 1) (N := some 53) (v := ?_) (a' := ?_) #[true, true, false, false, false, false, false, false, false, false, false, false, false, false, false, false, false, false, false] rfl rfl (by kernel_rfl) (fun _ _ _ h => h) (Or.inl ⟨by rfl, ?_⟩) ?_ ?_
  rotate_left
  · intro w'
    go_simp
    with_reducible rfl
  rotate_left
  · simp only [Act.put, List.setIfInBounds_toArray, List.set_cons_zero, List.set_cons_succ, i64_w, i32_w]
    rfl
  refine pure_ (i := 4) (N := some 56) (v := ?_) (a' := ?_) #[true, true, false, false, true, false, false, false, false, false, false, false, false, false, false, false, false, false, false] rfl rfl (by kernel_rfl) (fun _ _ _ h => h) (Or.inl ⟨by rfl, ?_⟩) ?_ ?_
  rotate_left
  · intro w'
    go_simp
    with_reducible rfl
  rotate_left
  · simp only [Act.put, List.setIfInBounds_toArray, List.set_cons_zero, List.set_cons_succ, i64_w, i32_w]
    rfl
  refine pure_ (i := 5) (N := some 57) (v := ?_) (a' := ?_) #[true, true, false, false, true, true, false, false, false, false, false, false, false, false, false, false, false, false, false] rfl rfl (by kernel_rfl) (fun _ _ _ h => h) (Or.inl ⟨by rfl, ?_⟩) ?_ ?_
  rotate_left
  · intro w'
    go_simp
    with_reducible rfl
  rotate_left
  · simp only [Act.put, List.setIfInBounds_toArray, List.set_cons_zero, List.set_cons_succ, i64_w, i32_w]
    rfl
  refine pure_ (i := 6) (N := some 58) (v := ?_) (a' := ?_) #[true, true, false, false, true, true, true, false, false, false, false, false, false, false, false, false, false, false, false] rfl rfl (by kernel_rfl) (fun _ _ _ h => h) (Or.inl ⟨by rfl, ?_⟩) ?_ ?_
  rotate_left
  · intro w'
    go_simp
    with_reducible rfl
  rotate_left
  · simp only [Act.put, List.setIfInBounds_toArray, List.set_cons_zero, List.set_cons_succ, i64_w, i32_w]
    rfl
  refine pure_ (i := 8) (N := some 60) (v := ?_) (a' := ?_) #[true, true, false, false, true, true, true, false, true, false, false, false, false, false, false, false, false, false, false] rfl rfl (by kernel_rfl) (fun _ _ _ h => h) (Or.inl ⟨by rfl, ?_⟩) ?_ ?_
  rotate_left
  · intro w'
    go_simp
    with_reducible rfl
  rotate_left
  · simp only [Act.put, List.setIfInBounds_toArray, List.set_cons_zero, List.set_cons_succ, i64_w, i32_w]
    rfl
  refine pure_ (i := 12) (N := some 64) (v := ?_) (a' := ?_) #[true, true, false, false, true, true, true, false, true, false, false, false, true, false, false, false, false, false, false] rfl rfl (by kernel_rfl) (fun _ _ _ h => h) (Or.inl ⟨by rfl, ?_⟩) ?_ ?_
  rotate_left
  · intro w'
    go_simp
    with_reducible rfl
  rotate_left
  · simp only [Act.put, List.setIfInBounds_toArray, List.set_cons_zero, List.set_cons_succ, i64_w, i32_w]
    rfl
  refine take_ (i := 2) (N := some 54) (v := ?_) (a' := ?_) #[true, true, true, false, true, true, true, false, true, false, false, false, true, false, false, false, false, false, false] rfl rfl (by kernel_rfl) (fun _ _ _ h => h) (Or.inl ⟨by rfl, ?_⟩) hHeld ?_ ?_
  rotate_left
  · rintro w' ⟨s0, s1, s2, s3⟩
    go_simp
    with_reducible rfl
  rotate_left
  · simp only [Act.put, List.setIfInBounds_toArray, List.set_cons_zero, List.set_cons_succ, i64_w, i32_w]
    rfl
  refine pure_ (i := 3) (N := some 55) (v := ?_) (a' := ?_) #[true, true, true, true, true, true, true, false, true, false, false, false, true, false, false, false, false, false, false] rfl rfl (by kernel_rfl) (fun _ _ _ h => h) (Or.inl ⟨by rfl, ?_⟩) ?_ ?_
  rotate_left
  · intro w'
    go_simp
    with_reducible rfl
  rotate_left
  · simp only [Act.put, List.setIfInBounds_toArray, List.set_cons_zero, List.set_cons_succ, i64_w, i32_w]
    rfl
  refine take_ (i := 7) (N := some 59) (v := ?_) (a' := ?_) #[true, true, true, true, true, true, true, true, true, false, false, false, true, false, false, false, false, false, false] rfl rfl (by kernel_rfl) (fun _ _ _ h => h) (Or.inl ⟨by rfl, ?_⟩) hHeld ?_ ?_
  rotate_left
  · rintro w' ⟨s0, s1, s2, s3⟩
    go_simp
    with_reducible rfl
  rotate_left
  · simp only [Act.put, List.setIfInBounds_toArray, List.set_cons_zero, List.set_cons_succ, i64_w, i32_w]
    rfl
  refine pure_ (i := 9) (N := some 61) (v := ?_) (a' := ?_) #[true, true, true, true, true, true, true, true, true, true, false, false, true, false, false, false, false, false, false] rfl rfl (by kernel_rfl) (fun _ _ _ h => h) (Or.inl ⟨by rfl, ?_⟩) ?_ ?_
  rotate_left
  · intro w'
    go_simp
    with_reducible rfl
  rotate_left
  · simp only [Act.put, List.setIfInBounds_toArray, List.set_cons_zero, List.set_cons_succ, i64_w, i32_w]
    rfl
  refine pure_ (i := 10) (N := some 62) (v := ?_) (a' := ?_) #[true, true, true, true, true, true, true, true, true, true, true, false, true, false, false, false, false, false, false] rfl rfl (by kernel_rfl) (fun _ _ _ h => h) (Or.inl ⟨by rfl, ?_⟩) ?_ ?_
  rotate_left
  · intro w'
    go_simp
    with_reducible rfl
  rotate_left
  · simp only [Act.put, List.setIfInBounds_toArray, List.set_cons_zero, List.set_cons_succ, i64_w, i32_w]
    rfl
  refine take_ (i := 11) (N := some 63) (v := ?_) (a' := ?_) #[true, true, true, true, true, true, true, true, true, true, true, true, true, false, false, false, false, false, false] rfl rfl (by kernel_rfl) (fun _ _ _ h => h) (Or.inl ⟨by rfl, ?_⟩) hHeld ?_ ?_
  rotate_left
  · rintro w' ⟨s0, s1, s2, s3⟩
    go_simp
    with_reducible rfl
  rotate_left
  · simp only [Act.put, List.setIfInBounds_toArray, List.set_cons_zero, List.set_cons_succ, i64_w, i32_w]
    rfl
  refine one_ (i := 13) (N := some 65) #[true, true, true, true, true, true, true, true, true, true, true, true, true, true, false, false, false, false, false] rfl rfl (by kernel_rfl) (by decide) (fun K hK => ?_)
  refine goes_ Try.func23 (by kernel_rfl) rfl #[.agg #[.slice A0 S.length c0, .slice none 0 0], .agg #[.slice (some ⟨xm.2, 0, none⟩) 1 1, .slice none 0 0], .slice none 0 0] (by rfl) rfl rfl (by simp only [List.map_toArray, List.map_cons, List.map_nil]; rfl) ?_
  with_reducible refine (HF.out).mono ?_
  rintro e w5 ⟨A5, c5, rfl, hR5, hb5⟩
  refine ⟨_, rfl, ?_⟩
  have HR5 := Aside0.mk hR5
  have HB5 := Aside0.mk (below_step (W := w4.drew) (below_drew (Below.refl w4.heap.size w4)) hb5)
  clear hR5 hb5
  refine hK.out _ _ ⟨(HB5.out.cell (p := ⟨W.heap.size, 1, none⟩) (blk_lt HS.out.bx)).trans x1, (HB5.out.cell (p := ⟨gp, 0, none⟩) hgl).trans g0, (HB5.out.cell (p := ⟨bt, u * 3 + 1, none⟩) hbt).trans y1, (HB5.out.cell (p := ⟨bt, u * 3 + 2, none⟩) hbt).trans y2⟩ (fun hHeld => ?_)
  clear hK K
  refine norm_ (a' := ?_) ?_ ?_
  rotate_left
  · show Act.put _ (some 65) _ = _
    simp only [Act.put, List.setIfInBounds_toArray, List.set_cons_zero, List.set_cons_succ, i64_w, i32_w]
    rfl
  refine pure_ (i := 14) (N := some 51) (v := ?_) (a' := ?_) #[true, true, true, true, true, true, true, true, true, true, true, true, true, true, true, false, false, false, false] rfl rfl (by kernel_rfl) (fun _ _ _ h => h) (Or.inl ⟨by rfl, ?_⟩) ?_ ?_
  rotate_left
  · intro w'
    go_simp
    with_reducible rfl
  rotate_left
  · simp only [Act.put, List.setIfInBounds_toArray, List.set_cons_zero, List.set_cons_succ, i64_w, i32_w]
    rfl
  refine pure_ (i := 15) (N := some 66) (v := ?_) (a' := ?_) #[true, true, true, true, true, true, true, true, true, true, true, true, true, true, true, true, false, false, false] rfl rfl (by kernel_rfl) (fun _ _ _ h => h) (Or.inl ⟨by rfl, ?_⟩) ?_ ?_
  rotate_left
  · intro w'
    go_simp
    with_reducible rfl
  rotate_left
  · simp only [Act.put, List.setIfInBounds_toArray, List.set_cons_zero, List.set_cons_succ, i64_w, i32_w]
    rfl
  refine pure_ (i := 16) (N := some 67) (v := ?_) (a' := ?_) #[true, true, true, true, true, true, true, true, true, true, true, true, true, true, true, true, true, false, false] rfl rfl (by kernel_rfl) (fun _ _ _ h => h) (Or.inl ⟨by rfl, ?_⟩) ?_ ?_
  rotate_left
  · intro w'
    go_simp
    with_reducible rfl
  rotate_left
  · simp only [Act.put, List.setIfInBounds_toArray, List.set_cons_zero, List.set_cons_succ, i64_w, i32_w]
    rfl
  refine pure_ (i := 17) (N := some 16) (v := ?_) (a' := ?_) #[true, true, true, true, true, true, true, true, true, true, true, true, true, true, true, true, true, true, false] rfl rfl (by kernel_rfl) (fun _ _ _ h => h) (Or.inl ⟨by rfl, ?_⟩) ?_ ?_
  rotate_left
  · intro w'
    go_simp
    with_reducible rfl
  rotate_left
  · simp only [Act.put, List.setIfInBounds_toArray, List.set_cons_zero, List.set_cons_succ, i64_w, i32_w]
    rfl
  refine pure_ (i := 18) (N := some 17) (v := ?_) (a' := ?_) #[true, true, true, true, true, true, true, true, true, true, true, true, true, true, true, true, true, true, true] rfl rfl (by kernel_rfl) (fun _ _ _ h => h) (Or.inl ⟨by rfl, ?_⟩) ?_ ?_
  rotate_left
  · intro w'
    go_simp
    with_reducible rfl
  rotate_left
  · simp only [Act.put, List.setIfInBounds_toArray, List.set_cons_zero, List.set_cons_succ, i64_w, i32_w]
    rfl
  refine done_ (by kernel_rfl) ?_

  have HS5 := Aside0.mk (HS.out.step HB5.out)
  have k0 : w5.cell? ⟨gp, 0, none⟩ = some (.slice (some ⟨bt, 0, none⟩) L.length ct) := (HB5.out.cell (p := ⟨gp, 0, none⟩) hgl).trans g0
  have k1 : w5.cell? ⟨bt, u * 3, none⟩ = some (.pointer (some ⟨xm.1, 0, none⟩)) := (HB5.out.cell (p := ⟨bt, u * 3, none⟩) hbt).trans y0
  have k2 : w5.cell? ⟨W.heap.size, 0, none⟩ = some (.int .i64 who) := HS5.out.cells.1
  have HZ := Aside0.mk (show W.heap.size ≤ w4.heap.size from HS.out.below.size)
  clear x0 x1 x2 x3 g0 y0 y1 y2 hbt hgl HS HF
  go_wp2
  have HP := Aside0.mk ((HS5.out.step (below_drew (Below.refl _ _))).push (Wx := w5.drew) (W2 := w4.drew) HXm.out HZ.out (Kd.R_drew HR5.out) (who, text) HBase.out)
  refine start_ (n := 13) (S := fun w' => w'.cell? ⟨gp, 0, none⟩ = some (.slice (some ⟨bt, 0, none⟩) L.length ct) ∧ w'.cell? ⟨bt, u * 3, none⟩ = some (.pointer (some ⟨xm.1, 0, none⟩)) ∧ w'.cell? ⟨W.heap.size, 0, none⟩ = some (.int .i64 who)) (ds := [12]) #[false, false, false, false, false, false, false, false, false, false, false, false, false] (by kernel_rfl) rfl rfl ⟨k0, k1, k2⟩ (fun hHeld => ?_)
  refine pure_ (i := 0) (N := some 70) (v := ?_) (a' := ?_) #[true, false, false, false, false, false, false, false, false, false, false, false, false] rfl rfl (by kernel_rfl) (fun _ _ _ h => h) (Or.inl ⟨by rfl, ?_⟩) ?_ ?_
  rotate_left
  · intro w'
    go_simp
    with_reducible rfl
  rotate_left
  · simp only [Act.put, List.setIfInBounds_toArray, List.set_cons_zero, List.set_cons_succ, i64_w, i32_w]
    rfl
  refine pure_ (i := 1) (N := some 71) (v := ?_) (a' := ?_) #[true, true, false, false, false, false, false, false, false, false, false, false, false] rfl rfl (by kernel_rfl) (fun _ _ _ h => h) (Or.inl ⟨by rfl, ?_⟩) ?_ ?_
  rotate_left
  · intro w'
    go_simp
    with_reducible rfl
  rotate_left
  · simp only [Act.put, List.setIfInBounds_toArray, List.set_cons_zero, List.set_cons_succ, i64_w, i32_w]
    rfl
  refine pure_ (i := 2) (N := some 72) (v := ?_) (a' := ?_) #[true, true, true, false, false, false, false, false, false, false, false, false, false] rfl rfl (by kernel_rfl) (fun _ _ _ h => h) (Or.inl ⟨by rfl, ?_⟩) ?_ ?_
  rotate_left
  · intro w'
    go_simp
    with_reducible rfl
  rotate_left
  · simp only [Act.put, List.setIfInBounds_toArray, List.set_cons_zero, List.set_cons_succ, i64_w, i32_w]
    rfl
  refine pure_ (i := 4) (N := some 74) (v := ?_) (a' := ?_) #[true, true, true, false, true, false, false, false, false, false, false, false, false] rfl rfl (by kernel_rfl) (fun _ _ _ h => h) (Or.inl ⟨by rfl, ?_⟩) ?_ ?_
  rotate_left
  · intro w'
    go_simp
    with_reducible rfl
  rotate_left
  · simp only [Act.put, List.setIfInBounds_toArray, List.set_cons_zero, List.set_cons_succ, i64_w, i32_w]
    rfl
  refine pure_ (i := 8) (N := some 78) (v := ?_) (a' := ?_) #[true, true, true, false, true, false, false, false, true, false, false, false, false] rfl rfl (by kernel_rfl) (fun _ _ _ h => h) (Or.inl ⟨by rfl, ?_⟩) ?_ ?_
  rotate_left
  · intro w'
    go_simp
    with_reducible rfl
  rotate_left
  · simp only [Act.put, List.setIfInBounds_toArray, List.set_cons_zero, List.set_cons_succ, i64_w, i32_w]
    rfl
  refine pure_ (i := 10) (N := some 80) (v := ?_) (a' := ?_) #[true, true, true, false, true, false, false, false, true, false, true, false, false] rfl rfl (by kernel_rfl) (fun _ _ _ h => h) (Or.inl ⟨by rfl, ?_⟩) ?_ ?_
  rotate_left
  · intro w'
    go_simp
    with_reducible rfl
  rotate_left
  · simp only [Act.put, List.setIfInBounds_toArray, List.set_cons_zero, List.set_cons_succ, i64_w, i32_w]
    rfl
  refine take_ (i := 3) (N := some 73) (v := ?_) (a' := ?_) #[true, true, true, true, true, false, false, false, true, false, true, false, false] rfl rfl (by kernel_rfl) (fun _ _ _ h => h) (Or.inl ⟨by rfl, ?_⟩) hHeld ?_ ?_
  rotate_left
  · rintro w' ⟨s0, s1, s2⟩
    go_simp
    with_reducible rfl
  rotate_left
  · simp only [Act.put, List.setIfInBounds_toArray, List.set_cons_zero, List.set_cons_succ, i64_w, i32_w]
    rfl
  refine pure_ (i := 5) (N := some 75) (v := ?_) (a' := ?_) #[true, true, true, true, true, true, false, false, true, false, true, false, false] rfl rfl (by kernel_rfl) (fun _ _ _ h => h) (Or.inl ⟨by rfl, ?_⟩) ?_ ?_
  rotate_left
  · intro w'
    go_simp
    with_reducible rfl
  rotate_left
  · simp only [Act.put, List.setIfInBounds_toArray, List.set_cons_zero, List.set_cons_succ, i64_w, i32_w]
    rfl
  refine pure_ (i := 6) (N := some 76) (v := ?_) (a' := ?_) #[true, true, true, true, true, true, true, false, true, false, true, false, false] rfl rfl (by kernel_rfl) (fun _ _ _ h => h) (Or.inl ⟨by rfl, ?_⟩) ?_ ?_
  rotate_left
  · intro w'
    go_simp
    with_reducible rfl
  rotate_left
  · simp only [Act.put, List.setIfInBounds_toArray, List.set_cons_zero, List.set_cons_succ, i64_w, i32_w]
    rfl
  refine take_ (i := 7) (N := some 77) (v := ?_) (a' := ?_) #[true, true, true, true, true, true, true, true, true, false, true, false, false] rfl rfl (by kernel_rfl) (fun _ _ _ h => h) (Or.inl ⟨by rfl, ?_⟩) hHeld ?_ ?_
  rotate_left
  · rintro w' ⟨s0, s1, s2⟩
    go_simp
    with_reducible rfl
  rotate_left
  · simp only [Act.put, List.setIfInBounds_toArray, List.set_cons_zero, List.set_cons_succ, i64_w, i32_w]
    rfl
  refine take_ (i := 9) (N := some 79) (v := ?_) (a' := ?_) #[true, true, true, true, true, true, true, true, true, true, true, false, false] rfl rfl (by kernel_rfl) (fun _ _ _ h => h) (Or.inl ⟨by rfl, ?_⟩) hHeld ?_ ?_
  rotate_left
  · rintro w' ⟨s0, s1, s2⟩
    go_simp
    with_reducible rfl
  rotate_left
  · simp only [Act.put, List.setIfInBounds_toArray, List.set_cons_zero, List.set_cons_succ, i64_w, i32_w]
    rfl
  refine pure_ (i := 11) (N := some 81) (v := ?_) (a' := ?_) #[true, true, true, true, true, true, true, true, true, true, true, true, false] rfl rfl (by kernel_rfl) (fun _ _ _ h => h) (Or.inl ⟨by rfl, ?_⟩) ?_ ?_
  rotate_left
  · intro w'
    go_simp
    with_reducible rfl
  rotate_left
  · simp only [Act.put, List.setIfInBounds_toArray, List.set_cons_zero, List.set_cons_succ, i64_w, i32_w]
    rfl
  refine last_ (i := 12) (N := some 82) #[true, true, true, true, true, true, true, true, true, true, true, true, true] rfl rfl (by kernel_rfl) (by decide) (fun K hK => ?_)
  refine goes_ Try.func25 (by kernel_rfl) rfl #[.pointer (some ⟨xm.1, 0, none⟩), .agg #[.int .i64 who, .string text]] (by rfl) rfl rfl (by simp only [List.map_toArray, List.map_cons, List.map_nil]; rfl) ?_
  with_reducible refine (HP.out).mono ?_
  rintro e w6 ⟨⟨b6, rfl⟩, hS6⟩
  refine ⟨_, rfl, ?_⟩
  have HS6 := Aside0.mk hS6
  clear hS6
  refine hK.out _ _ ?_
  clear hK K
  refine norm_ (a' := ?_) ?_ ?_
  rotate_left
  · show Act.put _ (some 82) _ = _
    simp only [Act.put, List.setIfInBounds_toArray, List.set_cons_zero, List.set_cons_succ, i64_w, i32_w]
    rfl
  refine done_ (by kernel_rfl) ?_

  go_wp2
  go_ret2
  rw [HE.out]
  exact HS6.out
theorem send_calls (h : PAt W base ρ t gp room mbs L) {who : Int} {A0 A1 A2 : Option Addr} {c0 c1 c2 : Nat} {S I own : List Int} (h0 : Rd W A0 c0 S) (h1 : Rd W A1 c1 I) (h2 : Rd W A2 c2 own) (hown : own.length ≤ 17592186044415) (tw : Int) (text : ByteArray) (op : Bool) (hbase : base ≤ W.heap.size)  :
    Calls Try.prog 9 #[.pointer (some ⟨gp, 0, none⟩), .agg #[.int .i64 who, .slice A0 S.length c0, .slice A1 I.length c1, .slice A2 own.length c2], .int .i64 tw, .string text, .bool op] W (SendPost W base ρ t gp room mbs (sendL L room who S I own tw text op)) := by
  by_cases hw : 0 ≤ who ∧ who < (L.length : Int)
  · by_cases ht : 0 ≤ tw ∧ tw < (L.length : Int)
    · by_cases hc : Cats own
      · by_cases hm : May S I
        · by_cases hl : 1024 < text.size
          · exact send_d h h0 h1 h2 hown tw text op hbase (decide_eq_true hw) (decide_eq_true ht) hc hm hl
          · by_cases hf : Within (lackL S tw) (if op then own else [])
            · cases op with
              | true => exact send_f1 h h0 h1 h2 hown tw text true hbase (decide_eq_true hw) (decide_eq_true ht) hc hm hl rfl hf
              | false => exact send_f2 h h0 h1 h2 hown tw text false hbase (decide_eq_true hw) (decide_eq_true ht) hc hm hl rfl hf
            · cases op with
              | true => exact send_e1 h h0 h1 h2 hown tw text true hbase (decide_eq_true hw) (decide_eq_true ht) hc hm hl rfl hf
              | false => exact send_e2 h h0 h1 h2 hown tw text false hbase (decide_eq_true hw) (decide_eq_true ht) hc hm hl rfl hf
        · exact send_c h h0 h1 h2 hown tw text op hbase (decide_eq_true hw) (decide_eq_true ht) hc hm
      · exact send_b h h0 h1 h2 hown tw text op hbase (decide_eq_true hw) (decide_eq_true ht) hc
    · exact send_a2 h h0 h1 h2 hown tw text op hbase (decide_eq_true hw) (decide_eq_false ht)
  · exact send_a1 h h0 h1 h2 hown tw text op hbase (decide_eq_false hw)
end
end Go.Proofs.Ytclhddldbfdfdaa.PoW
