/- port.Copy. -/
import Derived.Test.YtclhddldbfdfdaaPoL1
namespace Go.Proofs.Ytclhddldbfdfdaa.PoW
open Go.RowKit Go.Proofs.YtclhddldbfdfdaaW.PrintWords Go.Proofs.YtclhddldbfdfdaaW.PrintMore Go.Proofs.YtclhddldbfdfdaaW.PrintLast
set_option linter.unusedVariables false
set_option linter.unusedSimpArgs false
theorem QAt.base {W : World} {base base' : Nat} {ok : Nat → Prop} {g room : Nat} {l : List Msg} (h : QAt W base ok g room l) (hb : base' ≤ base) : QAt W base' ok g room l := by
  obtain ⟨v, fr, dr, buf, hq⟩ := h
  exact ⟨v, fr, dr, buf, hq.box, Kd.R_lower hq.row hb, hq.ring, hq.short, hq.dr0, hq.dr1, hq.okg, hq.room0, hq.room1⟩
section
variable {W : World} {base : Nat} {ρ : Own} {gp room : Nat} {mbs : List (Nat × Nat)} {L : List (List Msg)}
theorem PAt.row2 {t : Nat} (h : PAt W base ρ t gp room mbs L) {A : Option Addr} {n c : Nat} (hb0 : W.heap[gp]? = some (.cells #[.slice A n c] 62 (0, 0))) {W2 : World} (hb : Below W.heap.size W W2) {ρ3 : Own} (ho : Agree W ρ ρ3) :
    W2.heap[gp]? = some (.cells #[.slice A n c] 62 (0, 0)) ∧ Kd.R kMb 69 W2 base (fun k => ρ3 k = some (t, 0) ∧ k ≠ gp) (.slice A n c) mbs := by
  obtain ⟨A', c', hx, hr⟩ := h.row hb ho
  have h1 := (hb.block gp (blk_lt hb0)).trans hb0
  rw [h1] at hx
  simp only [Option.some.injEq, Obj.cells.injEq, Array.mk.injEq, List.cons.injEq, Value.slice.injEq, and_true, true_and] at hx
  obtain ⟨rfl, rfl, rfl⟩ := hx
  exact ⟨h1, hr⟩
def CopyPost (W : World) (ρ : Own) (room : Nat) (L : List (List Msg)) (e : Ending) (W' : World) : Prop := ∃ gc mbs ρ', e = .returned (.pointer (some ⟨gc, 0, none⟩)) ∧ W.heap.size ≤ gc ∧ Agree W ρ ρ' ∧ PAt W' W.heap.size ρ' 2 gc room mbs L ∧ Below W.heap.size W W'
set_option maxHeartbeats 8000000 in
set_option maxRecDepth 100000 in
theorem pcopy_calls (h : PAt W base ρ 1 gp room mbs L) (hL : 0 < L.length) : Calls Try.prog 19 #[.pointer (some ⟨gp, 0, none⟩)] W (CopyPost W ρ room L) := by
  obtain ⟨b, c, _, hb0, _, _, _, _, _, hbl⟩ := h.cells hL
  have p0 : W.cell? ⟨gp, 0, none⟩ = some (.slice (some ⟨b, 0, none⟩) L.length c) := blk_cell hb0 0
  have hgp := blk_lt hb0
  have hfew := h.few
  have e3 : (L.length = 0) = False := eq_false (by omega)
  have e4 : ((L.length : Int) == 0) = false := beq_false_of_ne (by omega)
  have HB0 := Aside0.mk hb0
  have HP := Aside0.mk h
  have HI := Aside0.mk (show ∀ W1, W.alloc (.cells #[.slice none 0 0] 62) = W1 → PAt W1 W.heap.size (upd ρ W.heap.size (2, 0)) 2 W.heap.size room [] [] ∧ Below W.heap.size W W1 from fun W1 e => by
    subst e
    exact ⟨⟨⟨_, heap_alloc_new W _, Kd.R_nil _ _ _ _ _⟩, upd_ge (Nat.le_refl _), rfl, by simp, by simp, by simp, by decide⟩, below_alloc (Below.refl _ _) _⟩)
  clear h hb0
  go_enter Try.func19, Try.ntmps19
  go_upto_region 4 with (fail)
  generalize hW1 : World.alloc W _ = W1
  obtain ⟨hp, hb⟩ := HI.out W1 hW1
  have q0 : W1.cell? ⟨gp, 0, none⟩ = some (.slice (some ⟨b, 0, none⟩) L.length c) := (hb.cell (p := ⟨gp, 0, none⟩) hgp).trans p0
  have HQ := Aside0.mk hp
  have HB := Aside0.mk hb
  clear hp hb HI hW1 p0
  go_wp2
  go_loopw [23] (fun t23 wr => ∃ (k : Nat) (mbs' : List (Nat × Nat)) (ρ' : Own), k ≤ L.length ∧ t23 = .int .i64 (k : Int) ∧ Aside0 (Agree W ρ ρ') ∧ Aside0 (PAt wr W.heap.size ρ' 2 W.heap.size room mbs' (L.take k)) ∧ Aside0 (Below W.heap.size W wr)) (fun i _ => L.length - (intOf i).toNat)
  case atStart => exact ⟨0, [], _, Nat.zero_le _, rfl, Aside0.mk (fun k hk => upd_lt hk), HQ, HB⟩
  case round =>
    clear HQ HB q0
    obtain ⟨k, mbs', ρ', hk, rfl, HA, HQ, HB⟩ := hrel
    by_cases hlt : k < L.length
    · have i1 : (k : Int) < (L.length : Int) := by omega
      obtain ⟨b', c', x, hb', hx, hl, y0, y1, y2, _⟩ := HP.out.cells hlt
      have hb2 := hb'.symm.trans HB0.out
      simp only [Option.some.injEq, Obj.cells.injEq, Array.mk.injEq, List.cons.injEq, Value.slice.injEq, Addr.mk.injEq, and_true, true_and] at hb2
      obtain ⟨rfl, rfl⟩ := hb2
      have z0 : wr.cell? ⟨b', k * 3, none⟩ = some (.pointer (some ⟨x.1, 0, none⟩)) := (HB.out.cell (p := ⟨b', k * 3, none⟩) hbl).trans y0
      have z1 : wr.cell? ⟨b', k * 3 + 1, none⟩ = some (.slice (some ⟨x.2, 0, none⟩) 1 1) := (HB.out.cell (p := ⟨b', k * 3 + 1, none⟩) hbl).trans y1
      have z2 : wr.cell? ⟨b', k * 3 + 2, none⟩ = some (.slice none 0 0) := (HB.out.cell (p := ⟨b', k * 3 + 2, none⟩) hbl).trans y2
      have hlab := HP.out.labs k x hx
      have hqs := HP.out.qs k x _ hx hl
      have hlk : (L.take k).length = k := by rw [List.length_take]; omega
      obtain ⟨A3, c3, hb3⟩ := HQ.out.slice
      rw [hlk] at hb3
      have HTk := Aside0.mk (show L.take (k + 1) = L.take k ++ [L[k]] from List.take_succ_eq_append_getElem hlt)
      have HLab := Aside0.mk hlab
      have HQs := Aside0.mk hqs
      have HLk := Aside0.mk hlk
      clear hb' y0 y1 y2 hlab hqs hx hl hlk
      generalize L[k] = l at HQs HTk
      have hg3 := blk_lt hb3
      have u0 : wr.cell? ⟨W.heap.size, 0, none⟩ = some (.slice A3 k c3) := blk_cell hb3 0
      have HB3 := Aside0.mk hb3
      clear hb3
      go_upto_region 7 with (fail)
      have hz1 : (wr.alloc (.cells #[.pointer (some ⟨x.1, 0, none⟩), .slice (some ⟨x.2, 0, none⟩) 1 1, .slice none 0 0] 69)).heap.size = wr.heap.size + 1 := by simp
      have hx1 := heap_alloc_new wr (.cells #[.pointer (some ⟨x.1, 0, none⟩), .slice (some ⟨x.2, 0, none⟩) 1 1, .slice none 0 0] 69)
      have hb1 := below_alloc (Below.refl wr.heap.size wr) (.cells #[.pointer (some ⟨x.1, 0, none⟩), .slice (some ⟨x.2, 0, none⟩) 1 1, .slice none 0 0] 69)
      have HZ1 := Aside0.mk hz1
      generalize wr.alloc _ = w1 at *
      have m0 : w1.cell? ⟨wr.heap.size, 0, none⟩ = some (.pointer (some ⟨x.1, 0, none⟩)) := blk_cell hx1 0
      have m1 : w1.cell? ⟨wr.heap.size, 1, none⟩ = some (.slice (some ⟨x.2, 0, none⟩) 1 1) := blk_cell hx1 1
      have m2 : w1.cell? ⟨wr.heap.size, 2, none⟩ = some (.slice none 0 0) := blk_cell hx1 2
      have u1 : w1.cell? ⟨W.heap.size, 0, none⟩ = some (.slice A3 k c3) := (hb1.cell (p := ⟨W.heap.size, 0, none⟩) hg3).trans u0
      have HQs1 := Aside0.mk (QAt.move HQs.out (W' := w1.drew) (ok' := fun q => ρ q = some (1, k + 1)) (fun q _ hq => (below_drew (below_step HB.out hb1)).block q hq) (fun _ h _ => h))
      have HB1 := Aside0.mk hb1
      clear hz1 hx1 hb1 u0 z0 z1 z2 HQs
      refine start_ (n := 16) (S := fun w' => w'.cell? ⟨W.heap.size, 0, none⟩ = some (.slice A3 k c3) ∧ w'.cell? ⟨wr.heap.size, 0, none⟩ = some (.pointer (some ⟨x.1, 0, none⟩)) ∧ w'.cell? ⟨wr.heap.size, 1, none⟩ = some (.slice (some ⟨x.2, 0, none⟩) 1 1) ∧ w'.cell? ⟨wr.heap.size, 2, none⟩ = some (.slice none 0 0)) (ds := [12, 15]) #[false, false, false, false, false, false, false, false, false, false, false, false, false, false, false, false] (by kernel_rfl) rfl rfl ⟨u1, m0, m1, m2⟩ (fun hHeld => ?_)
      refine pure_ (i := 0) (N := some 27) (v := ?_) (a' := ?_) #[true, false, false, false, false, false, false, false, false, false, false, false, false, false, false, false] rfl rfl (by kernel_rfl) (fun _ _ _ h => h) (Or.inl ⟨by rfl, ?_⟩) ?_ ?_
      rotate_left
      · intro w'
        go_simp
        with_reducible rfl
      rotate_left
      · simp only [Act.put, List.setIfInBounds_toArray, List.set_cons_zero, List.set_cons_succ, i64_w, i32_w]
        rfl
      refine pure_ (i := 1) (N := some 28) (v := ?_) (a' := ?_) #[true, true, false, false, false, false, false, false, false, false, false, false, false, false, false, false] rfl rfl (by kernel_rfl) (fun _ _ _ h => h) (Or.inl ⟨by rfl, ?_⟩) ?_ ?_
      rotate_left
      · intro w'
        go_simp
        with_reducible rfl
      rotate_left
      · simp only [Act.put, List.setIfInBounds_toArray, List.set_cons_zero, List.set_cons_succ, i64_w, i32_w]
        rfl
      refine pure_ (i := 2) (N := some 29) (v := ?_) (a' := ?_) #[true, true, true, false, false, false, false, false, false, false, false, false, false, false, false, false] rfl rfl (by kernel_rfl) (fun _ _ _ h => h) (Or.inl ⟨by rfl, ?_⟩) ?_ ?_
      rotate_left
      · intro w'
        go_simp
        with_reducible rfl
      rotate_left
      · simp only [Act.put, List.setIfInBounds_toArray, List.set_cons_zero, List.set_cons_succ, i64_w, i32_w]
        rfl
      refine pure_ (i := 3) (N := some 30) (v := ?_) (a' := ?_) #[true, true, true, true, false, false, false, false, false, false, false, false, false, false, false, false] rfl rfl (by kernel_rfl) (fun _ _ _ h => h) (Or.inl ⟨by rfl, ?_⟩) ?_ ?_
      rotate_left
      · intro w'
        go_simp
        with_reducible rfl
      rotate_left
      · simp only [Act.put, List.setIfInBounds_toArray, List.set_cons_zero, List.set_cons_succ, i64_w, i32_w]
        rfl
      refine pure_ (i := 5) (N := some 32) (v := ?_) (a' := ?_) #[true, true, true, true, false, true, false, false, false, false, false, false, false, false, false, false] rfl rfl (by kernel_rfl) (fun _ _ _ h => h) (Or.inl ⟨by rfl, ?_⟩) ?_ ?_
      rotate_left
      · intro w'
        go_simp
        with_reducible rfl
      rotate_left
      · simp only [Act.put, List.setIfInBounds_toArray, List.set_cons_zero, List.set_cons_succ, i64_w, i32_w]
        rfl
      refine pure_ (i := 8) (N := some 35) (v := ?_) (a' := ?_) #[true, true, true, true, false, true, false, false, true, false, false, false, false, false, false, false] rfl rfl (by kernel_rfl) (fun _ _ _ h => h) (Or.inl ⟨by rfl, ?_⟩) ?_ ?_
      rotate_left
      · intro w'
        go_simp
        with_reducible rfl
      rotate_left
      · simp only [Act.put, List.setIfInBounds_toArray, List.set_cons_zero, List.set_cons_succ, i64_w, i32_w]
        rfl
      refine take_ (i := 4) (N := some 31) (v := ?_) (a' := ?_) #[true, true, true, true, true, true, false, false, true, false, false, false, false, false, false, false] rfl rfl (by kernel_rfl) (fun _ _ _ h => h) (Or.inl ⟨by rfl, ?_⟩) hHeld ?_ ?_
      rotate_left
      · rintro w' ⟨s0, s1, s2, s3⟩
        go_simp
        with_reducible rfl
      rotate_left
      · simp only [Act.put, List.setIfInBounds_toArray, List.set_cons_zero, List.set_cons_succ, i64_w, i32_w]
        rfl
      refine take_ (i := 6) (N := some 33) (v := ?_) (a' := ?_) #[true, true, true, true, true, true, true, false, true, false, false, false, false, false, false, false] rfl rfl (by kernel_rfl) (fun _ _ _ h => h) (Or.inl ⟨by rfl, ?_⟩) hHeld ?_ ?_
      rotate_left
      · rintro w' ⟨s0, s1, s2, s3⟩
        go_simp
        with_reducible rfl
      rotate_left
      · simp only [Act.put, List.setIfInBounds_toArray, List.set_cons_zero, List.set_cons_succ, i64_w, i32_w]
        rfl
      refine take_ (i := 9) (N := some 36) (v := ?_) (a' := ?_) #[true, true, true, true, true, true, true, false, true, true, false, false, false, false, false, false] rfl rfl (by kernel_rfl) (fun _ _ _ h => h) (Or.inl ⟨by rfl, ?_⟩) hHeld ?_ ?_
      rotate_left
      · rintro w' ⟨s0, s1, s2, s3⟩
        go_simp
        with_reducible rfl
      rotate_left
      · simp only [Act.put, List.setIfInBounds_toArray, List.set_cons_zero, List.set_cons_succ, i64_w, i32_w]
        rfl
      refine one_ (i := 7) (N := some 34) #[true, true, true, true, true, true, true, true, true, true, false, false, false, false, false, false] rfl rfl (by kernel_rfl) (by decide) (fun K hK => ?_)
      refine goes_ Try.func32 (by kernel_rfl) rfl #[.pointer (some ⟨x.1, 0, none⟩)] (by rfl) rfl rfl (by simp only [List.map_toArray, List.map_cons, List.map_nil]; rfl) ?_
      with_reducible refine (qcopy_calls HQs1.out).mono ?_
      rintro e w2 ⟨gq, rfl, hq2, hb2⟩
      refine ⟨_, rfl, ?_⟩
      have c20 := pw_cell_below hb2 (show w1.drew.cell? ⟨W.heap.size, 0, none⟩ = some (.slice A3 k c3) from u1)
      have c21 := pw_cell_below hb2 (show w1.drew.cell? ⟨wr.heap.size, 0, none⟩ = some (.pointer (some ⟨x.1, 0, none⟩)) from m0)
      have c22 := pw_cell_below hb2 (show w1.drew.cell? ⟨wr.heap.size, 1, none⟩ = some (.slice (some ⟨x.2, 0, none⟩) 1 1) from m1)
      have c23 := pw_cell_below hb2 (show w1.drew.cell? ⟨wr.heap.size, 2, none⟩ = some (.slice none 0 0) from m2)
      have HB2 := Aside0.mk (below_step (below_drew HB1.out) hb2)
      have HQ2 := Aside0.mk hq2
      have hz2 := hb2.size
      have HZ2 := Aside0.mk hz2
      have hg2 : W.heap.size < w2.heap.size := (by have := HZ1.out; have : w1.drew.heap.size = w1.heap.size := rfl; omega)
      have hgm2 : wr.heap.size < w2.heap.size := (by have := HZ1.out; have : w1.drew.heap.size = w1.heap.size := rfl; omega)
      clear hq2 hb2 hz2
      refine hK.out _ _ ⟨c20, c21, c22, c23⟩ (fun hHeld => ?_)
      clear hK K
      refine norm_ (a' := ?_) ?_ ?_
      rotate_left
      · show Act.put _ (some 34) _ = _
        simp only [Act.put, List.setIfInBounds_toArray, List.set_cons_zero, List.set_cons_succ, i64_w, i32_w]
        rfl
      refine pure_ (i := 10) (N := some 37) (v := ?_) (a' := ?_) #[true, true, true, true, true, true, true, true, true, true, true, false, false, false, false, false] rfl rfl (by kernel_rfl) (fun _ _ _ h => h) (Or.inl ⟨by rfl, ?_⟩) ?_ ?_
      rotate_left
      · intro w'
        go_simp
        with_reducible rfl
      rotate_left
      · simp only [Act.put, List.setIfInBounds_toArray, List.set_cons_zero, List.set_cons_succ, i64_w, i32_w]
        rfl
      refine one_ (i := 11) (N := some 38) #[true, true, true, true, true, true, true, true, true, true, true, true, false, false, false, false] rfl rfl (by kernel_rfl) (by decide) (fun K hK => ?_)
      refine value_ (w1 := (w2.alloc (.cells #[.pointer (some ⟨gq, 0, none⟩), .slice (some ⟨x.2, 0, none⟩) 1 1, .slice none 0 0] 69))) (v := ?_) (by rfl) rfl ?_ ?_
      rotate_left 1
      · go_simp
        first | rfl | (constructor <;> rfl)
      refine hK.out _ _ ⟨pw_cell_below (below_alloc (Below.refl _ _) _) c20, pw_cell_below (below_alloc (Below.refl _ _) _) c21, pw_cell_below (below_alloc (Below.refl _ _) _) c22, pw_cell_below (below_alloc (Below.refl _ _) _) c23⟩ (fun hHeld => ?_)
      clear hK K
      refine norm_ (a' := ?_) ?_ ?_
      rotate_left
      · show Act.put _ (some 38) _ = _
        simp only [Act.put, List.setIfInBounds_toArray, List.set_cons_zero, List.set_cons_succ, i64_w, i32_w]
        rfl
      refine last_ (i := 12) (N := some 39) #[true, true, true, true, true, true, true, true, true, true, true, true, true, false, false, false] rfl rfl (by kernel_rfl) (by decide) (fun K hK => ?_)
      refine Kd.R_append_step kMb (w0 := W) W.heap.size (by rfl) (.tmp 31) (.tmp 38) 60 69 (.agg #[.pointer none, .slice none 0 0, .slice none 0 0]) 56 rfl Try.underlying60 infoMb (by rfl) (by decide) (by decide) (.slice A3 k c3) mbs' (gq, x.2) (encMb (gq, x.2)) (fun q => upd (upd ρ' wr.heap.size (2, (L.take k).length + 1)) w2.heap.size (2, 0) q = some (2, 0) ∧ q ≠ W.heap.size) (fun _ => False) rfl rfl (kMb_M (kMb_mk _ _)) (fun _ h => h.elim) (fun q hq => ⟨upd_ge hq, by omega⟩) (HQ.out.row2 HB3.out HB2.out (fun q hq => (upd_lt (by omega)).trans (upd_lt hq))).2 (below_step HB.out HB2.out) (Nat.le_of_lt hg2) (by have h1 := HQ.out.len; have h2 := HLk.out; omega) ?_
      intro v1 w3 hR3 hB3 hG3 hat3
      obtain ⟨A5, c5, rfl⟩ := Kd.R_slice hR3
      have hx3 := blk_grown (HQ.out.row2 HB3.out HB2.out (fun q hq => (upd_lt (by omega)).trans (upd_lt (t := (2, (L.take k).length + 1)) hq)) (ρ3 := upd (upd ρ' wr.heap.size (2, (L.take k).length + 1)) w2.heap.size (2, 0))).1 hG3 (fun e => ((HQ.out.row2 HB3.out HB2.out (fun q hq => (upd_lt (by omega)).trans (upd_lt (t := (2, (L.take k).length + 1)) hq)) (ρ3 := upd (upd ρ' wr.heap.size (2, (L.take k).length + 1)) w2.heap.size (2, 0))).2.1 _ e.symm).2 rfl)
      have y0 : w3.cell? ⟨W.heap.size, 0, none⟩ = some (.slice A3 k c3) := blk_cell hx3 0
      have t0 : w3.frozen? ⟨W.heap.size, 0, none⟩ = false := blk_frozen hx3 0
      have HR3 := Aside0.mk hR3
      have HBB3 := Aside0.mk hB3
      have HG3 := Aside0.mk hG3
      clear hR3 hB3 hG3 hat3 hx3
      refine hK.out _ _ ?_
      clear hK K
      refine norm_ (a' := ?_) ?_ ?_
      rotate_left
      · show Act.put _ (some 39) _ = _
        simp only [Act.put, List.setIfInBounds_toArray, List.set_cons_zero, List.set_cons_succ, i64_w, i32_w]
        rfl
      refine pure_ (i := 13) (N := some 40) (v := ?_) (a' := ?_) #[true, true, true, true, true, true, true, true, true, true, true, true, true, true, false, false] rfl rfl (by kernel_rfl) (fun _ _ _ h => h) (Or.inl ⟨by rfl, ?_⟩) ?_ ?_
      rotate_left
      · intro w'
        go_simp
        with_reducible rfl
      rotate_left
      · simp only [Act.put, List.setIfInBounds_toArray, List.set_cons_zero, List.set_cons_succ, i64_w, i32_w]
        rfl
      refine pure_ (i := 14) (N := some 41) (v := ?_) (a' := ?_) #[true, true, true, true, true, true, true, true, true, true, true, true, true, true, true, false] rfl rfl (by kernel_rfl) (fun _ _ _ h => h) (Or.inl ⟨by rfl, ?_⟩) ?_ ?_
      rotate_left
      · intro w'
        go_simp
        with_reducible rfl
      rotate_left
      · simp only [Act.put, List.setIfInBounds_toArray, List.set_cons_zero, List.set_cons_succ, i64_w, i32_w]
        rfl
      refine last_ (i := 15) (N := none) #[true, true, true, true, true, true, true, true, true, true, true, true, true, true, true, true] rfl rfl (by kernel_rfl) (by decide) (fun K hK => ?_)
      refine skip_ (w1 := ?_) (by rfl) rfl ?_ ?_
      rotate_left
      · go_simp
        rfl
      refine hK.out _ _ ?_
      clear hK K
      refine done_ (by kernel_rfl) ?_

      have hrow := HQ.out.row2 HB3.out HB2.out (ρ3 := upd (upd ρ' wr.heap.size (2, (L.take k).length + 1)) w2.heap.size (2, 0)) (fun q hq => (upd_lt (by omega)).trans (upd_lt hq))
      have h4 := HQ.out.added (ρ2 := upd ρ' wr.heap.size (2, (L.take k).length + 1)) HB2.out (fun q hq => upd_lt hq) (QAt.move (HQ2.out.base (show W.heap.size ≤ w1.drew.heap.size from (by have := HZ1.out; have : w1.drew.heap.size = w1.heap.size := rfl; omega))) (ok' := fun q => upd ρ' wr.heap.size (2, (L.take k).length + 1) q = some (2, (L.take k).length + 1)) (fun _ _ _ => rfl) (fun q hq _ => upd_ge (by have := HZ1.out; have h5 : w1.drew.heap.size ≤ q := hq; have : w1.drew.heap.size = w1.heap.size := rfl; omega))) (s := x.2) ⟨by
        rw [HLk.out]
        exact (HB2.out.block x.2 (Nat.lt_of_lt_of_le (blk_lt HLab.out.1) HB.out.size)).trans ((HB.out.block x.2 (blk_lt HLab.out.1)).trans HLab.out.1), (upd_lt (Nat.lt_of_lt_of_le (blk_lt HLab.out.1) HB.out.size)).trans ((HA.out x.2 (blk_lt HLab.out.1)).trans HLab.out.2)⟩ hrow.1 HR3.out HG3.out (fun q hq => hrow.2.1 q hq) (by rw [HLk.out]; omega)
      have hle : Below W.heap.size W (w3.setCell ⟨W.heap.size, 0, none⟩ (.slice A5 (mbs' ++ [(gq, x.2)]).length c5)) := HBB3.out.setCell (p := ⟨W.heap.size, 0, none⟩) (Nat.le_refl _) _
      rw [← HTk.out] at h4
      rw [show (mbs' ++ [(gq, x.2)]).length = mbs'.length + 1 from by simp] at h4 hle
      have hA4 : Agree W ρ (upd (upd ρ' wr.heap.size (2, (L.take k).length + 1)) w2.heap.size (2, 0)) := fun q hq => (upd_lt (by omega)).trans ((upd_lt (by omega)).trans (HA.out q hq))
      have H4 := Aside0.mk h4
      have HL4 := Aside0.mk hle
      have HA4 := Aside0.mk hA4
      clear h4 hle hA4 hrow
      go_wp2
      exact ⟨⟨k + 1, _, _, by omega, by go_num, HA4, H4, HL4⟩, by simp [intOf]; omega⟩
    · have i1 : ¬ ((k : Int) < (L.length : Int)) := by omega
      obtain rfl : k = L.length := by omega
      go_wp2
      go_ret
      have h1 := HQ.out
      rw [List.take_length] at h1
      exact ⟨W.heap.size, mbs', ρ', rfl, Nat.le_refl _, HA.out, h1, HB.out⟩
end
end Go.Proofs.Ytclhddldbfdfdaa.PoW
