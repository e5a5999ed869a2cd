/- The law PortDenies. -/
import Derived.Test.YtclhddldbfdfdaaPoL1
namespace Go.Proofs.Ytclhddldbfdfdaa.PoW
open Go.RowKit Go.Proofs.YtclhddldbfdfdaaW.PrintWords Go.Proofs.YtclhddldbfdfdaaW.PrintMore Go.Proofs.YtclhddldbfdfdaaW.PrintLast Go.Proofs.Ytclhddldbfdfdaa.LabF Go.Proofs.Ytclhddldbfdfdaa.SetF
set_option linter.unusedVariables false
set_option linter.unusedSimpArgs false
theorem lack_kept (S : List Int) (tw : Int) : lackL S tw = keptL S [2 * tw + 1] false := rises_ext (lacks_rises _ _ _ _) (keptL_rises _ _ _) fun x => by
  unfold lackL
  rw [mem_lacks, mem_less]
  simp
section
variable {w0 W W' : World} {gp room : Nat} {L : List (List Msg)} {rs : List (Option Addr × Nat × List Int)} {bs : List (Nat × Array Value × TypeId)}
theorem PS.newB (w0 W : World) (hb : Below w0.heap.size w0 W) (bs : List (Nat × Array Value × TypeId)) (hx : ∀ b ∈ bs, W.heap[b.1]? = some (.cells b.2.1 b.2.2 (0, 0))) (users room : Nat) (h0 : 1 ≤ users) (h1 : users ≤ 16) (h2 : 1 ≤ room) (h3 : room ≤ 64) :
    Calls Try.prog 8 #[.int .i64 (users : Int), .int .i64 (room : Int)] W fun e W' => ∃ gp, e = .returned (.tuple #[.pointer (some ⟨gp, 0, none⟩), .int .i64 0]) ∧ PS w0 gp room (List.replicate users []) [] bs W' := by
  refine (pnew_calls (ρ := fun _ => some (0, 0)) (t := 1) users room h0 h1 h2 h3 (by decide)).mono ?_
  rintro e W' ⟨gp, mbs, ρ', he, hg, ho, hp, hB⟩
  refine ⟨gp, he, below_step hb hB, ρ', mbs, hp.lower hb.size, by simp, fun b hm => ⟨blk_below (hx b hm) hB, ho _ (blk_lt (hx b hm))⟩, fun k i e => ?_⟩
  rcases Nat.lt_or_ge k W.heap.size with h4 | h4
  · rw [ho k h4] at e
    injection e with e
    injection e with e
    omega
  · exact Nat.le_trans hb.size h4
theorem PS.fresh (h : PS w0 gp room L rs bs W) {A : Option Addr} {c : Nat} {l : List Int} (hR : Kd.R (Kd.int .i64) 3 W' W.heap.size (fun _ => True) (.slice A l.length c) l) (hb : Below W.heap.size W W') : PS w0 gp room L ((A, c, l) :: rs) bs W' := by
  obtain ⟨ρ, mbs, hp, hr, hx, hbs⟩ := h.ex
  refine ⟨below_step h.below hb, upd ρ W.heap.size (0, 0), mbs, hp.below hb (fun k hk => upd_lt hk), fun r hm => ?_, fun b hm => ?_, fun k i e => ?_⟩
  · rcases List.mem_cons.1 hm with rfl | hm
    · exact Kd.R_mono (Kd.R_lower (Kd.R_bound hR) h.below.size) (fun k hk => upd_ge hk.2.1)
    · exact Kd.R_mono (Kd.R_below (Kd.R_bound (hr r hm)) hb) (fun k hk => (upd_lt hk.2.2.1).trans hk.1)
  · obtain ⟨h1, h2⟩ := hx b hm
    exact ⟨blk_below h1 hb, (upd_lt (blk_lt h1)).trans h2⟩
  · rcases Nat.lt_or_ge k W.heap.size with h1 | h1
    · exact hbs k i ((upd_lt h1).symm.trans e)
    · exact Nat.le_trans h.below.size h1
theorem PS.less1 (h : PS w0 gp room L rs bs W) {A : Option Addr} {c : Nat} {l : List Int} {x : Int} (h0 : Rd W A c l) (hl : l.length ≤ 17592186044415) {K : List Int} (hK : keptL l [x] false = K) {k : Nat} (hk : W.heap.size = k) :
    Calls Try.prog 14 #[.slice A l.length c, .slice (some ⟨k, 0, none⟩) 1 1] (W.alloc (.cells #[.int .i64 x] 3)) fun e w' => ∃ A' c', e = .returned (.slice A' K.length c') ∧ PS w0 gp room L ((A', c', K) :: rs) bs w' := by
  subst hk
  have hb := below_alloc (Below.refl W.heap.size W) (.cells #[.int .i64 x] 3)
  obtain ⟨k, hk⟩ := (Sempt.less_ev l [x] hl (by simp)).rounds
  rw [hK] at hk
  refine (Pbase.cloisterref01_Less.calls k A c l (some ⟨W.heap.size, 0, none⟩) 1 [x] K _ (Kd.C_below h0.2 hb) h0.1 (Hand.lit1 W x) (Nat.le_refl _) hk).mono ?_
  rintro e w' ⟨v, rfl, hR, hB⟩
  obtain ⟨A', c', rfl⟩ := Kd.R_slice hR
  exact ⟨A', c', rfl, (h.step hb).fresh hR hB⟩
theorem PS.within (h : PS w0 gp room L rs bs W) {A0 A1 : Option Addr} {c0 c1 : Nat} {l0 l1 : List Int} (h0 : Rd W A0 c0 l0) (h1 : Rd W A1 c1 l1) (hl0 : l0.length ≤ 17592186044415) (hl1 : l1.length ≤ 17592186044415) {b : Bool} (hb : decide (Within l0 l1) = b) :
    Calls Try.prog 15 #[.slice A0 l0.length c0, .slice A1 l1.length c1] W fun e w' => e = .returned (.bool b) ∧ PS w0 gp room L rs bs w' := by
  obtain ⟨k, hk⟩ := (Sempt.within_ev l0 l1 hl0 hl1).rounds
  have he : (((keptL l0 l1 false).length : Int) == 0) = b := by
    rw [← hb, Bool.eq_iff_iff, beq_iff_eq, decide_eq_true_eq, ← within_less]
    omega
  rw [he] at hk
  exact (Pbase.cloisterref01_Within.calls k A0 c0 l0 A1 c1 l1 b W h0.2 h0.1 h1.2 h1.1 hk).mono fun e w' ⟨he, hd⟩ => ⟨he, h.step (by first | exact hd | exact hd.below)⟩
end
def L4 : List (List Msg) := [[], [], [], []]
theorem len4 (tw : Int) : lenL L4 tw = 0 := by
  unfold lenL
  split
  · rename_i h
    have h2 : tw < 4 := h.2
    obtain ⟨u, rfl⟩ := Int.eq_ofNat_of_zero_le h.1
    rcases u with _ | _ | _ | _ | u
    · rfl
    · rfl
    · rfl
    · rfl
    · omega
  · rfl
theorem len4p {tw : Int} (h : 0 ≤ tw ∧ tw < 4) (m : Msg) : lenL (pushL L4 3 tw.toNat m) tw = 1 := by
  obtain ⟨u, rfl⟩ := Int.eq_ofNat_of_zero_le h.1
  rcases u with _ | _ | _ | _ | u
  · rfl
  · rfl
  · rfl
  · rfl
  · omega
theorem rd_below {w W : World} {A : Option Addr} {c : Nat} {l : List Int} (h : Rd w A c l) (hb : Below w.heap.size w W) : Rd W A c l := h.step hb
set_option maxHeartbeats 4000000 in
set_option maxRecDepth 100000 in
theorem den_a (kind tw who : Int) (A0 : Option Addr) (c0 : Nat) (S : List Int) (A1 : Option Addr) (c1 : Nat) (I : List Int) (A2 : Option Addr) (c2 : Nat) (own : List Int) (text : ByteArray) (op : Bool) (w : World) (h0 : Rd w A0 c0 S) (h1 : Rd w A1 c1 I) (h2 : Rd w A2 c2 own) (ho : own.length ≤ 17592186044415)
    (re : Int) (hs : sendL L4 3 who S I own tw text op = ([], re, L4)) (hre : ¬ re = 0) : Calls Try.prog 4 #[.agg #[.int .i64 kind, .int .i64 tw, .int .i64 who, .slice A0 S.length c0, .slice A1 I.length c1, .slice A2 own.length c2, .string text, .bool op]] w fun e w' => e = .returned (.bool true) ∧ Below w.heap.size w w' := by
  have HX := Aside0.mk (show ∀ W1, w.alloc (.cells #[.int .i64 kind, .int .i64 tw, .int .i64 who, .slice A0 S.length c0, .slice A1 I.length c1, .slice A2 own.length c2, .string text, .bool op] 43) = W1 → Below w.heap.size w W1 ∧ W1.heap[w.heap.size]? = some (.cells #[.int .i64 kind, .int .i64 tw, .int .i64 who, .slice A0 S.length c0, .slice A1 I.length c1, .slice A2 own.length c2, .string text, .bool op] 43 (0, 0)) ∧ W1.heap.size = w.heap.size + 1 from fun W1 e => e ▸ ⟨below_alloc (Below.refl _ _) _, heap_alloc_new w _, by simp⟩)
  have HH := Aside0.mk (And.intro h0 (And.intro h1 h2))
  have HO := Aside0.mk ho
  have HN := Aside0.mk (fun (W : World) (hb : Below w.heap.size w W) (hx : W.heap[w.heap.size + 1]? = some (.cells #[.int .i64 who, .slice A0 S.length c0, .slice A1 I.length c1, .slice A2 own.length c2] 34 (0, 0))) => (show Calls Try.prog 8 #[.int .i64 4, .int .i64 3] W fun e W' => ∃ gp, e = .returned (.tuple #[.pointer (some ⟨gp, 0, none⟩), .int .i64 0]) ∧ PS w gp 3 L4 [] [(w.heap.size + 1, #[.int .i64 who, .slice A0 S.length c0, .slice A1 I.length c1, .slice A2 own.length c2], 34)] W' from PS.newB w W hb [(w.heap.size + 1, #[.int .i64 who, .slice A0 S.length c0, .slice A1 I.length c1, .slice A2 own.length c2], 34)] (fun b hm => by rw [List.mem_singleton.1 hm]; exact hx) 4 3 (by decide) (by decide) (by decide) (by decide)))
  have HS := Aside0.mk hs
  have HLen := Aside0.mk len4
  have d0 : (re == 0) = false := beq_false_of_ne hre
  have d1 : decide (re = 0) = false := decide_eq_false hre
  have d2 : (re = 0) = False := eq_false hre
  clear h0 h1 h2 ho hs hre
  go_enter Try.func4, Try.ntmps4
  go_wp2
  generalize hW1 : World.alloc w _ = w1
  obtain ⟨hb1, hx1, hz1⟩ := HX.out w1 hW1
  have HB1 := Aside0.mk hb1
  have HX1 := Aside0.mk hx1
  clear HX hW1 hb1
  have o1 : w1.cell? ⟨w.heap.size, 1, none⟩ = some (.int .i64 tw) := blk_cell hx1 1
  have o2 : w1.cell? ⟨w.heap.size, 2, none⟩ = some (.int .i64 who) := blk_cell hx1 2
  have o3 : w1.cell? ⟨w.heap.size, 3, none⟩ = some (.slice A0 S.length c0) := blk_cell hx1 3
  have o4 : w1.cell? ⟨w.heap.size, 4, none⟩ = some (.slice A1 I.length c1) := blk_cell hx1 4
  have o5 : w1.cell? ⟨w.heap.size, 5, none⟩ = some (.slice A2 own.length c2) := blk_cell hx1 5
  have o6 : w1.cell? ⟨w.heap.size, 6, none⟩ = some (.string text) := blk_cell hx1 6
  have o7 : w1.cell? ⟨w.heap.size, 7, none⟩ = some (.bool op) := blk_cell hx1 7
  clear hx1
  have hgl : w.heap.size < w1.heap.size := by omega
  refine start_ (n := 13) (S := fun w' => w'.cell? ⟨w.heap.size, 1, none⟩ = some (.int .i64 tw) ∧ w'.cell? ⟨w.heap.size, 2, none⟩ = some (.int .i64 who) ∧ w'.cell? ⟨w.heap.size, 3, none⟩ = some (.slice A0 S.length c0) ∧ w'.cell? ⟨w.heap.size, 4, none⟩ = some (.slice A1 I.length c1) ∧ w'.cell? ⟨w.heap.size, 5, none⟩ = some (.slice A2 own.length c2) ∧ w'.cell? ⟨w.heap.size, 6, none⟩ = some (.string text) ∧ w'.cell? ⟨w.heap.size, 7, none⟩ = some (.bool op)) (ds := []) #[false, false, false, false, false, false, false, false, false, false, false, false, false] (by kernel_rfl) rfl rfl ⟨o1, o2, o3, o4, o5, o6, o7⟩ (fun hHeld => ?_)
  refine pure_ (i := 0) (N := some 13) (v := ?_) (a' := ?_) #[true, false, false, false, false, false, false, false, false, false, false, false, false] rfl rfl (by kernel_rfl) (fun _ _ _ h => h) (Or.inl ⟨by rfl, ?_⟩) ?_ ?_
  rotate_left
  · intro w'
    go_simp
    with_reducible rfl
  rotate_left
  · simp only [Act.put, List.setIfInBounds_toArray, List.set_cons_zero, List.set_cons_succ, i64_w, i32_w]
    rfl
  refine pure_ (i := 2) (N := some 15) (v := ?_) (a' := ?_) #[true, false, true, false, false, false, false, false, false, false, false, false, false] rfl rfl (by kernel_rfl) (fun _ _ _ h => h) (Or.inl ⟨by rfl, ?_⟩) ?_ ?_
  rotate_left
  · intro w'
    go_simp
    with_reducible rfl
  rotate_left
  · simp only [Act.put, List.setIfInBounds_toArray, List.set_cons_zero, List.set_cons_succ, i64_w, i32_w]
    rfl
  refine pure_ (i := 4) (N := some 17) (v := ?_) (a' := ?_) #[true, false, true, false, true, false, false, false, false, false, false, false, false] rfl rfl (by kernel_rfl) (fun _ _ _ h => h) (Or.inl ⟨by rfl, ?_⟩) ?_ ?_
  rotate_left
  · intro w'
    go_simp
    with_reducible rfl
  rotate_left
  · simp only [Act.put, List.setIfInBounds_toArray, List.set_cons_zero, List.set_cons_succ, i64_w, i32_w]
    rfl
  refine pure_ (i := 6) (N := some 19) (v := ?_) (a' := ?_) #[true, false, true, false, true, false, true, false, false, false, false, false, false] rfl rfl (by kernel_rfl) (fun _ _ _ h => h) (Or.inl ⟨by rfl, ?_⟩) ?_ ?_
  rotate_left
  · intro w'
    go_simp
    with_reducible rfl
  rotate_left
  · simp only [Act.put, List.setIfInBounds_toArray, List.set_cons_zero, List.set_cons_succ, i64_w, i32_w]
    rfl
  refine take_ (i := 1) (N := some 14) (v := ?_) (a' := ?_) #[true, true, true, false, true, false, true, false, false, false, false, false, false] rfl rfl (by kernel_rfl) (fun _ _ _ h => h) (Or.inl ⟨by rfl, ?_⟩) hHeld ?_ ?_
  rotate_left
  · rintro w' ⟨s0, s1, s2, s3, s4, s5, s6⟩
    go_simp
    with_reducible rfl
  rotate_left
  · simp only [Act.put, List.setIfInBounds_toArray, List.set_cons_zero, List.set_cons_succ, i64_w, i32_w]
    rfl
  refine take_ (i := 3) (N := some 16) (v := ?_) (a' := ?_) #[true, true, true, true, true, false, true, false, false, false, false, false, false] rfl rfl (by kernel_rfl) (fun _ _ _ h => h) (Or.inl ⟨by rfl, ?_⟩) hHeld ?_ ?_
  rotate_left
  · rintro w' ⟨s0, s1, s2, s3, s4, s5, s6⟩
    go_simp
    with_reducible rfl
  rotate_left
  · simp only [Act.put, List.setIfInBounds_toArray, List.set_cons_zero, List.set_cons_succ, i64_w, i32_w]
    rfl
  refine take_ (i := 5) (N := some 18) (v := ?_) (a' := ?_) #[true, true, true, true, true, true, true, false, false, false, false, false, false] rfl rfl (by kernel_rfl) (fun _ _ _ h => h) (Or.inl ⟨by rfl, ?_⟩) hHeld ?_ ?_
  rotate_left
  · rintro w' ⟨s0, s1, s2, s3, s4, s5, s6⟩
    go_simp
    with_reducible rfl
  rotate_left
  · simp only [Act.put, List.setIfInBounds_toArray, List.set_cons_zero, List.set_cons_succ, i64_w, i32_w]
    rfl
  refine take_ (i := 7) (N := some 20) (v := ?_) (a' := ?_) #[true, true, true, true, true, true, true, true, false, false, false, false, false] rfl rfl (by kernel_rfl) (fun _ _ _ h => h) (Or.inl ⟨by rfl, ?_⟩) hHeld ?_ ?_
  rotate_left
  · rintro w' ⟨s0, s1, s2, s3, s4, s5, s6⟩
    go_simp
    with_reducible rfl
  rotate_left
  · simp only [Act.put, List.setIfInBounds_toArray, List.set_cons_zero, List.set_cons_succ, i64_w, i32_w]
    rfl
  refine one_ (i := 8) (N := some 3) #[true, true, true, true, true, true, true, true, true, false, false, false, false] rfl rfl (by kernel_rfl) (by decide) (fun K hK => ?_)
  refine value_ (w1 := (w1.drew.alloc (.cells #[.int .i64 0, .slice none 0 0, .slice none 0 0, .slice none 0 0] 34))) (v := ?_) (by rfl) rfl ?_ ?_
  rotate_left 1
  · go_simp
    first | rfl | (constructor <;> rfl)
  refine hK.out _ _ ⟨cell_old hgl o1, cell_old hgl o2, cell_old hgl o3, cell_old hgl o4, cell_old hgl o5, cell_old hgl o6, cell_old hgl o7⟩ (fun hHeld => ?_)
  clear hK K
  refine norm_ (a' := ?_) ?_ ?_
  rotate_left
  · show Act.put _ (some 3) _ = _
    simp only [Act.put, List.setIfInBounds_toArray, List.set_cons_zero, List.set_cons_succ, i64_w, i32_w]
    rfl
  refine one_ (i := 9) (N := none) #[true, true, true, true, true, true, true, true, true, true, false, false, false] rfl rfl (by kernel_rfl) (by decide) (fun K hK => ?_)
  refine skip_ (w1 := (w1.drew.alloc (.cells #[.int .i64 who, .slice A0 S.length c0, .slice A1 I.length c1, .slice A2 own.length c2] 34))) (by rfl) rfl ?_ ?_
  · go_simp
    try rfl
  refine hK.out _ _ ⟨cell_old hgl o1, cell_old hgl o2, cell_old hgl o3, cell_old hgl o4, cell_old hgl o5, cell_old hgl o6, cell_old hgl o7⟩ (fun hHeld => ?_)
  clear hK K
  refine pure_ (i := 10) (N := some 4) (v := ?_) (a' := ?_) #[true, true, true, true, true, true, true, true, true, true, true, false, false] rfl rfl (by kernel_rfl) (fun _ _ _ h => h) (Or.inl ⟨by rfl, ?_⟩) ?_ ?_
  rotate_left
  · intro w'
    go_simp
    with_reducible rfl
  rotate_left
  · simp only [Act.put, List.setIfInBounds_toArray, List.set_cons_zero, List.set_cons_succ, i64_w, i32_w]
    rfl
  refine pure_ (i := 11) (N := some 5) (v := ?_) (a' := ?_) #[true, true, true, true, true, true, true, true, true, true, true, true, false] rfl rfl (by kernel_rfl) (fun _ _ _ h => h) (Or.inl ⟨by rfl, ?_⟩) ?_ ?_
  rotate_left
  · intro w'
    go_simp
    with_reducible rfl
  rotate_left
  · simp only [Act.put, List.setIfInBounds_toArray, List.set_cons_zero, List.set_cons_succ, i64_w, i32_w]
    rfl
  refine pure_ (i := 12) (N := some 6) (v := ?_) (a' := ?_) #[true, true, true, true, true, true, true, true, true, true, true, true, true] rfl rfl (by kernel_rfl) (fun _ _ _ h => h) (Or.inl ⟨by rfl, ?_⟩) ?_ ?_
  rotate_left
  · intro w'
    go_simp
    with_reducible rfl
  rotate_left
  · simp only [Act.put, List.setIfInBounds_toArray, List.set_cons_zero, List.set_cons_succ, i64_w, i32_w]
    rfl
  refine done_ (by kernel_rfl) ?_

  generalize hW3 : World.alloc (World.drew w1) _ = w3
  have HB3 := Aside0.mk (show Below w.heap.size w w3 from hW3 ▸ below_alloc (below_drew HB1.out) _)
  have HX3 := Aside0.mk (show w3.heap[w.heap.size + 1]? = some (.cells #[.int .i64 who, .slice A0 S.length c0, .slice A1 I.length c1, .slice A2 own.length c2] 34 (0, 0)) from by
    rw [← hW3, ← hz1]; exact heap_alloc_new w1.drew _)
  clear hW3 o1 o2 o3 o4 o5 o6 o7 hgl HB1 HX1 hz1
  go_wp2_with (first
    | (go_at_call 8; (with_reducible refine (HN.out _ HB3.out HX3.out).mono ?_); rintro e w4 ⟨gp, rfl, hp⟩; have hx := hp.box List.mem_cons_self; have y0 : w4.cell? ⟨w.heap.size + 1, 0, none⟩ = some (.int .i64 who) := blk_cell hx 0; have y1 : w4.cell? ⟨w.heap.size + 1, 1, none⟩ = some (.slice A0 S.length c0) := blk_cell hx 1; have y2 : w4.cell? ⟨w.heap.size + 1, 2, none⟩ = some (.slice A1 I.length c1) := blk_cell hx 2; have y3 : w4.cell? ⟨w.heap.size + 1, 3, none⟩ = some (.slice A2 own.length c2) := blk_cell hx 3; have HP := Aside0.mk hp; have HR0 := Aside0.mk (rd_below HH.out.1 hp.below); have HR1 := Aside0.mk (rd_below HH.out.2.1 hp.below); have HR2 := Aside0.mk (rd_below HH.out.2.2 hp.below); clear hp hx)
    | (go_at_call 9; (with_reducible refine (HP.out.send HR0.out HR1.out HR2.out HO.out _ _ _ HS.out).mono ?_); rintro e w5 ⟨A5, c5, rfl, hp⟩; have hx := hp.box List.mem_cons_self; clear HP HR0 HR1 HR2 y0 y1 y2 y3; have y1 : w5.cell? ⟨w.heap.size + 1, 1, none⟩ = some (.slice A0 S.length c0) := blk_cell hx 1; have y3 : w5.cell? ⟨w.heap.size + 1, 3, none⟩ = some (.slice A2 own.length c2) := blk_cell hx 3; have HP := Aside0.mk hp; clear hp hx)
    | (go_at_call 13; (with_reducible refine (HP.out.len _ (HLen.out _)).mono ?_); rintro e w6 ⟨rfl, rfl⟩)
    | (go_at_call 12; (with_reducible refine (awake_calls _).mono ?_); rintro e w9 ⟨rfl, hb⟩; have HB9 := Aside0.mk (below_step HP.out.below hb); clear hb))
  all_goals go_ret
  all_goals exact ⟨rfl, HB9.out⟩
set_option maxHeartbeats 4000000 in
set_option maxRecDepth 100000 in
theorem den_b (kind tw who : Int) (A0 : Option Addr) (c0 : Nat) (S : List Int) (A1 : Option Addr) (c1 : Nat) (I : List Int) (A2 : Option Addr) (c2 : Nat) (own : List Int) (text : ByteArray) (op : Bool) (w : World) (h0 : Rd w A0 c0 S) (h1 : Rd w A1 c1 I) (h2 : Rd w A2 c2 own) (ho : own.length ≤ 17592186044415)
    (htw : 0 ≤ tw ∧ tw < 4) (hS : S.length ≤ 64) (L' : List (List Msg)) (hs : sendL L4 3 who S I own tw text op = ([], 0, L')) (hlen : lenL L' tw = 1) (hK : keptL S [2 * tw + 1] false = []) : Calls Try.prog 4 #[.agg #[.int .i64 kind, .int .i64 tw, .int .i64 who, .slice A0 S.length c0, .slice A1 I.length c1, .slice A2 own.length c2, .string text, .bool op]] w fun e w' => e = .returned (.bool true) ∧ Below w.heap.size w w' := by
  have HX := Aside0.mk (show ∀ W1, w.alloc (.cells #[.int .i64 kind, .int .i64 tw, .int .i64 who, .slice A0 S.length c0, .slice A1 I.length c1, .slice A2 own.length c2, .string text, .bool op] 43) = W1 → Below w.heap.size w W1 ∧ W1.heap[w.heap.size]? = some (.cells #[.int .i64 kind, .int .i64 tw, .int .i64 who, .slice A0 S.length c0, .slice A1 I.length c1, .slice A2 own.length c2, .string text, .bool op] 43 (0, 0)) ∧ W1.heap.size = w.heap.size + 1 from fun W1 e => e ▸ ⟨below_alloc (Below.refl _ _) _, heap_alloc_new w _, by simp⟩)
  have HH := Aside0.mk (And.intro h0 (And.intro h1 h2))
  have HO := Aside0.mk ho
  have HN := Aside0.mk (fun (W : World) (hb : Below w.heap.size w W) (hx : W.heap[w.heap.size + 1]? = some (.cells #[.int .i64 who, .slice A0 S.length c0, .slice A1 I.length c1, .slice A2 own.length c2] 34 (0, 0))) => (show Calls Try.prog 8 #[.int .i64 4, .int .i64 3] W fun e W' => ∃ gp, e = .returned (.tuple #[.pointer (some ⟨gp, 0, none⟩), .int .i64 0]) ∧ PS w gp 3 L4 [] [(w.heap.size + 1, #[.int .i64 who, .slice A0 S.length c0, .slice A1 I.length c1, .slice A2 own.length c2], 34)] W' from PS.newB w W hb [(w.heap.size + 1, #[.int .i64 who, .slice A0 S.length c0, .slice A1 I.length c1, .slice A2 own.length c2], 34)] (fun b hm => by rw [List.mem_singleton.1 hm]; exact hx) 4 3 (by decide) (by decide) (by decide) (by decide)))
  have HS := Aside0.mk hs
  have HLen := Aside0.mk hlen
  have HK := Aside0.mk hK
  have HSl := Aside0.mk (show S.length ≤ 17592186044415 by omega)
  have e1 : wrap64 (2 * tw) = 2 * tw := by unfold wrap64; omega
  have e2 : wrap64 (2 * tw + 1) = 2 * tw + 1 := by unfold wrap64; omega
  clear h0 h1 h2 ho hs hlen hK hS htw 
  go_enter Try.func4, Try.ntmps4
  go_wp2
  generalize hW1 : World.alloc w _ = w1
  obtain ⟨hb1, hx1, hz1⟩ := HX.out w1 hW1
  have HB1 := Aside0.mk hb1
  have HX1 := Aside0.mk hx1
  clear HX hW1 hb1
  have o1 : w1.cell? ⟨w.heap.size, 1, none⟩ = some (.int .i64 tw) := blk_cell hx1 1
  have o2 : w1.cell? ⟨w.heap.size, 2, none⟩ = some (.int .i64 who) := blk_cell hx1 2
  have o3 : w1.cell? ⟨w.heap.size, 3, none⟩ = some (.slice A0 S.length c0) := blk_cell hx1 3
  have o4 : w1.cell? ⟨w.heap.size, 4, none⟩ = some (.slice A1 I.length c1) := blk_cell hx1 4
  have o5 : w1.cell? ⟨w.heap.size, 5, none⟩ = some (.slice A2 own.length c2) := blk_cell hx1 5
  have o6 : w1.cell? ⟨w.heap.size, 6, none⟩ = some (.string text) := blk_cell hx1 6
  have o7 : w1.cell? ⟨w.heap.size, 7, none⟩ = some (.bool op) := blk_cell hx1 7
  clear hx1
  have hgl : w.heap.size < w1.heap.size := by omega
  refine start_ (n := 13) (S := fun w' => w'.cell? ⟨w.heap.size, 1, none⟩ = some (.int .i64 tw) ∧ w'.cell? ⟨w.heap.size, 2, none⟩ = some (.int .i64 who) ∧ w'.cell? ⟨w.heap.size, 3, none⟩ = some (.slice A0 S.length c0) ∧ w'.cell? ⟨w.heap.size, 4, none⟩ = some (.slice A1 I.length c1) ∧ w'.cell? ⟨w.heap.size, 5, none⟩ = some (.slice A2 own.length c2) ∧ w'.cell? ⟨w.heap.size, 6, none⟩ = some (.string text) ∧ w'.cell? ⟨w.heap.size, 7, none⟩ = some (.bool op)) (ds := []) #[false, false, false, false, false, false, false, false, false, false, false, false, false] (by kernel_rfl) rfl rfl ⟨o1, o2, o3, o4, o5, o6, o7⟩ (fun hHeld => ?_)
  refine pure_ (i := 0) (N := some 13) (v := ?_) (a' := ?_) #[true, false, false, false, false, false, false, false, false, false, false, false, false] rfl rfl (by kernel_rfl) (fun _ _ _ h => h) (Or.inl ⟨by rfl, ?_⟩) ?_ ?_
  rotate_left
  · intro w'
    go_simp
    with_reducible rfl
  rotate_left
  · simp only [Act.put, List.setIfInBounds_toArray, List.set_cons_zero, List.set_cons_succ, i64_w, i32_w]
    rfl
  refine pure_ (i := 2) (N := some 15) (v := ?_) (a' := ?_) #[true, false, true, false, false, false, false, false, false, false, false, false, false] rfl rfl (by kernel_rfl) (fun _ _ _ h => h) (Or.inl ⟨by rfl, ?_⟩) ?_ ?_
  rotate_left
  · intro w'
    go_simp
    with_reducible rfl
  rotate_left
  · simp only [Act.put, List.setIfInBounds_toArray, List.set_cons_zero, List.set_cons_succ, i64_w, i32_w]
    rfl
  refine pure_ (i := 4) (N := some 17) (v := ?_) (a' := ?_) #[true, false, true, false, true, false, false, false, false, false, false, false, false] rfl rfl (by kernel_rfl) (fun _ _ _ h => h) (Or.inl ⟨by rfl, ?_⟩) ?_ ?_
  rotate_left
  · intro w'
    go_simp
    with_reducible rfl
  rotate_left
  · simp only [Act.put, List.setIfInBounds_toArray, List.set_cons_zero, List.set_cons_succ, i64_w, i32_w]
    rfl
  refine pure_ (i := 6) (N := some 19) (v := ?_) (a' := ?_) #[true, false, true, false, true, false, true, false, false, false, false, false, false] rfl rfl (by kernel_rfl) (fun _ _ _ h => h) (Or.inl ⟨by rfl, ?_⟩) ?_ ?_
  rotate_left
  · intro w'
    go_simp
    with_reducible rfl
  rotate_left
  · simp only [Act.put, List.setIfInBounds_toArray, List.set_cons_zero, List.set_cons_succ, i64_w, i32_w]
    rfl
  refine take_ (i := 1) (N := some 14) (v := ?_) (a' := ?_) #[true, true, true, false, true, false, true, false, false, false, false, false, false] rfl rfl (by kernel_rfl) (fun _ _ _ h => h) (Or.inl ⟨by rfl, ?_⟩) hHeld ?_ ?_
  rotate_left
  · rintro w' ⟨s0, s1, s2, s3, s4, s5, s6⟩
    go_simp
    with_reducible rfl
  rotate_left
  · simp only [Act.put, List.setIfInBounds_toArray, List.set_cons_zero, List.set_cons_succ, i64_w, i32_w]
    rfl
  refine take_ (i := 3) (N := some 16) (v := ?_) (a' := ?_) #[true, true, true, true, true, false, true, false, false, false, false, false, false] rfl rfl (by kernel_rfl) (fun _ _ _ h => h) (Or.inl ⟨by rfl, ?_⟩) hHeld ?_ ?_
  rotate_left
  · rintro w' ⟨s0, s1, s2, s3, s4, s5, s6⟩
    go_simp
    with_reducible rfl
  rotate_left
  · simp only [Act.put, List.setIfInBounds_toArray, List.set_cons_zero, List.set_cons_succ, i64_w, i32_w]
    rfl
  refine take_ (i := 5) (N := some 18) (v := ?_) (a' := ?_) #[true, true, true, true, true, true, true, false, false, false, false, false, false] rfl rfl (by kernel_rfl) (fun _ _ _ h => h) (Or.inl ⟨by rfl, ?_⟩) hHeld ?_ ?_
  rotate_left
  · rintro w' ⟨s0, s1, s2, s3, s4, s5, s6⟩
    go_simp
    with_reducible rfl
  rotate_left
  · simp only [Act.put, List.setIfInBounds_toArray, List.set_cons_zero, List.set_cons_succ, i64_w, i32_w]
    rfl
  refine take_ (i := 7) (N := some 20) (v := ?_) (a' := ?_) #[true, true, true, true, true, true, true, true, false, false, false, false, false] rfl rfl (by kernel_rfl) (fun _ _ _ h => h) (Or.inl ⟨by rfl, ?_⟩) hHeld ?_ ?_
  rotate_left
  · rintro w' ⟨s0, s1, s2, s3, s4, s5, s6⟩
    go_simp
    with_reducible rfl
  rotate_left
  · simp only [Act.put, List.setIfInBounds_toArray, List.set_cons_zero, List.set_cons_succ, i64_w, i32_w]
    rfl
  refine one_ (i := 8) (N := some 3) #[true, true, true, true, true, true, true, true, true, false, false, false, false] rfl rfl (by kernel_rfl) (by decide) (fun K hK => ?_)
  refine value_ (w1 := (w1.drew.alloc (.cells #[.int .i64 0, .slice none 0 0, .slice none 0 0, .slice none 0 0] 34))) (v := ?_) (by rfl) rfl ?_ ?_
  rotate_left 1
  · go_simp
    first | rfl | (constructor <;> rfl)
  refine hK.out _ _ ⟨cell_old hgl o1, cell_old hgl o2, cell_old hgl o3, cell_old hgl o4, cell_old hgl o5, cell_old hgl o6, cell_old hgl o7⟩ (fun hHeld => ?_)
  clear hK K
  refine norm_ (a' := ?_) ?_ ?_
  rotate_left
  · show Act.put _ (some 3) _ = _
    simp only [Act.put, List.setIfInBounds_toArray, List.set_cons_zero, List.set_cons_succ, i64_w, i32_w]
    rfl
  refine one_ (i := 9) (N := none) #[true, true, true, true, true, true, true, true, true, true, false, false, false] rfl rfl (by kernel_rfl) (by decide) (fun K hK => ?_)
  refine skip_ (w1 := (w1.drew.alloc (.cells #[.int .i64 who, .slice A0 S.length c0, .slice A1 I.length c1, .slice A2 own.length c2] 34))) (by rfl) rfl ?_ ?_
  · go_simp
    try rfl
  refine hK.out _ _ ⟨cell_old hgl o1, cell_old hgl o2, cell_old hgl o3, cell_old hgl o4, cell_old hgl o5, cell_old hgl o6, cell_old hgl o7⟩ (fun hHeld => ?_)
  clear hK K
  refine pure_ (i := 10) (N := some 4) (v := ?_) (a' := ?_) #[true, true, true, true, true, true, true, true, true, true, true, false, false] rfl rfl (by kernel_rfl) (fun _ _ _ h => h) (Or.inl ⟨by rfl, ?_⟩) ?_ ?_
  rotate_left
  · intro w'
    go_simp
    with_reducible rfl
  rotate_left
  · simp only [Act.put, List.setIfInBounds_toArray, List.set_cons_zero, List.set_cons_succ, i64_w, i32_w]
    rfl
  refine pure_ (i := 11) (N := some 5) (v := ?_) (a' := ?_) #[true, true, true, true, true, true, true, true, true, true, true, true, false] rfl rfl (by kernel_rfl) (fun _ _ _ h => h) (Or.inl ⟨by rfl, ?_⟩) ?_ ?_
  rotate_left
  · intro w'
    go_simp
    with_reducible rfl
  rotate_left
  · simp only [Act.put, List.setIfInBounds_toArray, List.set_cons_zero, List.set_cons_succ, i64_w, i32_w]
    rfl
  refine pure_ (i := 12) (N := some 6) (v := ?_) (a' := ?_) #[true, true, true, true, true, true, true, true, true, true, true, true, true] rfl rfl (by kernel_rfl) (fun _ _ _ h => h) (Or.inl ⟨by rfl, ?_⟩) ?_ ?_
  rotate_left
  · intro w'
    go_simp
    with_reducible rfl
  rotate_left
  · simp only [Act.put, List.setIfInBounds_toArray, List.set_cons_zero, List.set_cons_succ, i64_w, i32_w]
    rfl
  refine done_ (by kernel_rfl) ?_

  generalize hW3 : World.alloc (World.drew w1) _ = w3
  have HB3 := Aside0.mk (show Below w.heap.size w w3 from hW3 ▸ below_alloc (below_drew HB1.out) _)
  have HX3 := Aside0.mk (show w3.heap[w.heap.size + 1]? = some (.cells #[.int .i64 who, .slice A0 S.length c0, .slice A1 I.length c1, .slice A2 own.length c2] 34 (0, 0)) from by
    rw [← hW3, ← hz1]; exact heap_alloc_new w1.drew _)
  clear hW3 o1 o2 o3 o4 o5 o6 o7 hgl HB1 HX1 hz1
  go_wp2_with (first
    | (go_at_call 8; (with_reducible refine (HN.out _ HB3.out HX3.out).mono ?_); rintro e w4 ⟨gp, rfl, hp⟩; have hx := hp.box List.mem_cons_self; have y0 : w4.cell? ⟨w.heap.size + 1, 0, none⟩ = some (.int .i64 who) := blk_cell hx 0; have y1 : w4.cell? ⟨w.heap.size + 1, 1, none⟩ = some (.slice A0 S.length c0) := blk_cell hx 1; have y2 : w4.cell? ⟨w.heap.size + 1, 2, none⟩ = some (.slice A1 I.length c1) := blk_cell hx 2; have y3 : w4.cell? ⟨w.heap.size + 1, 3, none⟩ = some (.slice A2 own.length c2) := blk_cell hx 3; have HP := Aside0.mk hp; have HR0 := Aside0.mk (rd_below HH.out.1 hp.below); have HR1 := Aside0.mk (rd_below HH.out.2.1 hp.below); have HR2 := Aside0.mk (rd_below HH.out.2.2 hp.below); clear hp hx)
    | (go_at_call 9; (with_reducible refine (HP.out.send HR0.out HR1.out HR2.out HO.out _ _ _ HS.out).mono ?_); rintro e w5 ⟨A5, c5, rfl, hp⟩; have hx := hp.box List.mem_cons_self; clear HP HR0 HR1 HR2 y0 y1 y2 y3; have y1 : w5.cell? ⟨w.heap.size + 1, 1, none⟩ = some (.slice A0 S.length c0) := blk_cell hx 1; have y3 : w5.cell? ⟨w.heap.size + 1, 3, none⟩ = some (.slice A2 own.length c2) := blk_cell hx 3; have HP := Aside0.mk hp; clear hp hx)
    | (go_at_call 13; (with_reducible refine (HP.out.len tw HLen.out).mono ?_); rintro e w6 ⟨rfl, rfl⟩)
    | (go_at_call 14; (with_reducible refine (HP.out.less1 (x := 2 * tw + 1) (rd_below HH.out.1 HP.out.below) HSl.out HK.out rfl).mono ?_); rintro e w7 ⟨A7, c7, rfl, hp⟩; have hx := hp.box List.mem_cons_self; clear HP y1 y3; have y3 : w7.cell? ⟨w.heap.size + 1, 3, none⟩ = some (.slice A2 own.length c2) := blk_cell hx 3; have HP := Aside0.mk hp; clear hp hx)
    | (go_at_call 12; (with_reducible refine (awake_calls _).mono ?_); rintro e w9 ⟨rfl, hb⟩; have HB9 := Aside0.mk (below_step HP.out.below hb); clear hb))
  all_goals go_ret
  all_goals exact ⟨rfl, HB9.out⟩
set_option maxHeartbeats 4000000 in
set_option maxRecDepth 100000 in
theorem den_c (kind tw who : Int) (A0 : Option Addr) (c0 : Nat) (S : List Int) (A1 : Option Addr) (c1 : Nat) (I : List Int) (A2 : Option Addr) (c2 : Nat) (own : List Int) (text : ByteArray) (op : Bool) (w : World) (h0 : Rd w A0 c0 S) (h1 : Rd w A1 c1 I) (h2 : Rd w A2 c2 own) (ho : own.length ≤ 17592186044415)
    (htw : 0 ≤ tw ∧ tw < 4) (hS : S.length ≤ 64) (L' : List (List Msg)) (K : List Int) (hs : sendL L4 3 who S I own tw text op = (K, 0, L')) (hlen : lenL L' tw = 1) (hK : keptL S [2 * tw + 1] false = K) (hKn : K ≠ []) (hop : op = true) (hwi : Within K own) : Calls Try.prog 4 #[.agg #[.int .i64 kind, .int .i64 tw, .int .i64 who, .slice A0 S.length c0, .slice A1 I.length c1, .slice A2 own.length c2, .string text, .bool op]] w fun e w' => e = .returned (.bool true) ∧ Below w.heap.size w w' := by
  have HX := Aside0.mk (show ∀ W1, w.alloc (.cells #[.int .i64 kind, .int .i64 tw, .int .i64 who, .slice A0 S.length c0, .slice A1 I.length c1, .slice A2 own.length c2, .string text, .bool op] 43) = W1 → Below w.heap.size w W1 ∧ W1.heap[w.heap.size]? = some (.cells #[.int .i64 kind, .int .i64 tw, .int .i64 who, .slice A0 S.length c0, .slice A1 I.length c1, .slice A2 own.length c2, .string text, .bool op] 43 (0, 0)) ∧ W1.heap.size = w.heap.size + 1 from fun W1 e => e ▸ ⟨below_alloc (Below.refl _ _) _, heap_alloc_new w _, by simp⟩)
  have HH := Aside0.mk (And.intro h0 (And.intro h1 h2))
  have HO := Aside0.mk ho
  have HN := Aside0.mk (fun (W : World) (hb : Below w.heap.size w W) (hx : W.heap[w.heap.size + 1]? = some (.cells #[.int .i64 who, .slice A0 S.length c0, .slice A1 I.length c1, .slice A2 own.length c2] 34 (0, 0))) => (show Calls Try.prog 8 #[.int .i64 4, .int .i64 3] W fun e W' => ∃ gp, e = .returned (.tuple #[.pointer (some ⟨gp, 0, none⟩), .int .i64 0]) ∧ PS w gp 3 L4 [] [(w.heap.size + 1, #[.int .i64 who, .slice A0 S.length c0, .slice A1 I.length c1, .slice A2 own.length c2], 34)] W' from PS.newB w W hb [(w.heap.size + 1, #[.int .i64 who, .slice A0 S.length c0, .slice A1 I.length c1, .slice A2 own.length c2], 34)] (fun b hm => by rw [List.mem_singleton.1 hm]; exact hx) 4 3 (by decide) (by decide) (by decide) (by decide)))
  have HS := Aside0.mk hs
  have HLen := Aside0.mk hlen
  have HK := Aside0.mk hK
  have HSl := Aside0.mk (show S.length ≤ 17592186044415 by omega)
  have e1 : wrap64 (2 * tw) = 2 * tw := by unfold wrap64; omega
  have e2 : wrap64 (2 * tw + 1) = 2 * tw + 1 := by unfold wrap64; omega
  have hk1 := kept_len S [2 * tw + 1] false
  rw [hK] at hk1
  have HKl := Aside0.mk (show K.length ≤ 17592186044415 by omega)
  have d0 : ((K.length : Int) == 0) = false := beq_false_of_ne (by have := List.length_pos_iff.2 hKn; omega)
  have d1 : (K.length = 0) = False := eq_false (by have := List.length_pos_iff.2 hKn; omega)
  have d2 : (K = []) = False := eq_false hKn
  clear hk1
  subst hop
  have HWi := Aside0.mk (decide_eq_true hwi)
  clear h0 h1 h2 ho hs hlen hK hS htw hKn hwi
  go_enter Try.func4, Try.ntmps4
  go_wp2
  generalize hW1 : World.alloc w _ = w1
  obtain ⟨hb1, hx1, hz1⟩ := HX.out w1 hW1
  have HB1 := Aside0.mk hb1
  have HX1 := Aside0.mk hx1
  clear HX hW1 hb1
  have o1 : w1.cell? ⟨w.heap.size, 1, none⟩ = some (.int .i64 tw) := blk_cell hx1 1
  have o2 : w1.cell? ⟨w.heap.size, 2, none⟩ = some (.int .i64 who) := blk_cell hx1 2
  have o3 : w1.cell? ⟨w.heap.size, 3, none⟩ = some (.slice A0 S.length c0) := blk_cell hx1 3
  have o4 : w1.cell? ⟨w.heap.size, 4, none⟩ = some (.slice A1 I.length c1) := blk_cell hx1 4
  have o5 : w1.cell? ⟨w.heap.size, 5, none⟩ = some (.slice A2 own.length c2) := blk_cell hx1 5
  have o6 : w1.cell? ⟨w.heap.size, 6, none⟩ = some (.string text) := blk_cell hx1 6
  have o7 : w1.cell? ⟨w.heap.size, 7, none⟩ = some (.bool true) := blk_cell hx1 7
  clear hx1
  have hgl : w.heap.size < w1.heap.size := by omega
  refine start_ (n := 13) (S := fun w' => w'.cell? ⟨w.heap.size, 1, none⟩ = some (.int .i64 tw) ∧ w'.cell? ⟨w.heap.size, 2, none⟩ = some (.int .i64 who) ∧ w'.cell? ⟨w.heap.size, 3, none⟩ = some (.slice A0 S.length c0) ∧ w'.cell? ⟨w.heap.size, 4, none⟩ = some (.slice A1 I.length c1) ∧ w'.cell? ⟨w.heap.size, 5, none⟩ = some (.slice A2 own.length c2) ∧ w'.cell? ⟨w.heap.size, 6, none⟩ = some (.string text) ∧ w'.cell? ⟨w.heap.size, 7, none⟩ = some (.bool true)) (ds := []) #[false, false, false, false, false, false, false, false, false, false, false, false, false] (by kernel_rfl) rfl rfl ⟨o1, o2, o3, o4, o5, o6, o7⟩ (fun hHeld => ?_)
  refine pure_ (i := 0) (N := some 13) (v := ?_) (a' := ?_) #[true, false, false, false, false, false, false, false, false, false, false, false, false] rfl rfl (by kernel_rfl) (fun _ _ _ h => h) (Or.inl ⟨by rfl, ?_⟩) ?_ ?_
  rotate_left
  · intro w'
    go_simp
    with_reducible rfl
  rotate_left
  · simp only [Act.put, List.setIfInBounds_toArray, List.set_cons_zero, List.set_cons_succ, i64_w, i32_w]
    rfl
  refine pure_ (i := 2) (N := some 15) (v := ?_) (a' := ?_) #[true, false, true, false, false, false, false, false, false, false, false, false, false] rfl rfl (by kernel_rfl) (fun _ _ _ h => h) (Or.inl ⟨by rfl, ?_⟩) ?_ ?_
  rotate_left
  · intro w'
    go_simp
    with_reducible rfl
  rotate_left
  · simp only [Act.put, List.setIfInBounds_toArray, List.set_cons_zero, List.set_cons_succ, i64_w, i32_w]
    rfl
  refine pure_ (i := 4) (N := some 17) (v := ?_) (a' := ?_) #[true, false, true, false, true, false, false, false, false, false, false, false, false] rfl rfl (by kernel_rfl) (fun _ _ _ h => h) (Or.inl ⟨by rfl, ?_⟩) ?_ ?_
  rotate_left
  · intro w'
    go_simp
    with_reducible rfl
  rotate_left
  · simp only [Act.put, List.setIfInBounds_toArray, List.set_cons_zero, List.set_cons_succ, i64_w, i32_w]
    rfl
  refine pure_ (i := 6) (N := some 19) (v := ?_) (a' := ?_) #[true, false, true, false, true, false, true, false, false, false, false, false, false] rfl rfl (by kernel_rfl) (fun _ _ _ h => h) (Or.inl ⟨by rfl, ?_⟩) ?_ ?_
  rotate_left
  · intro w'
    go_simp
    with_reducible rfl
  rotate_left
  · simp only [Act.put, List.setIfInBounds_toArray, List.set_cons_zero, List.set_cons_succ, i64_w, i32_w]
    rfl
  refine take_ (i := 1) (N := some 14) (v := ?_) (a' := ?_) #[true, true, true, false, true, false, true, false, false, false, false, false, false] rfl rfl (by kernel_rfl) (fun _ _ _ h => h) (Or.inl ⟨by rfl, ?_⟩) hHeld ?_ ?_
  rotate_left
  · rintro w' ⟨s0, s1, s2, s3, s4, s5, s6⟩
    go_simp
    with_reducible rfl
  rotate_left
  · simp only [Act.put, List.setIfInBounds_toArray, List.set_cons_zero, List.set_cons_succ, i64_w, i32_w]
    rfl
  refine take_ (i := 3) (N := some 16) (v := ?_) (a' := ?_) #[true, true, true, true, true, false, true, false, false, false, false, false, false] rfl rfl (by kernel_rfl) (fun _ _ _ h => h) (Or.inl ⟨by rfl, ?_⟩) hHeld ?_ ?_
  rotate_left
  · rintro w' ⟨s0, s1, s2, s3, s4, s5, s6⟩
    go_simp
    with_reducible rfl
  rotate_left
  · simp only [Act.put, List.setIfInBounds_toArray, List.set_cons_zero, List.set_cons_succ, i64_w, i32_w]
    rfl
  refine take_ (i := 5) (N := some 18) (v := ?_) (a' := ?_) #[true, true, true, true, true, true, true, false, false, false, false, false, false] rfl rfl (by kernel_rfl) (fun _ _ _ h => h) (Or.inl ⟨by rfl, ?_⟩) hHeld ?_ ?_
  rotate_left
  · rintro w' ⟨s0, s1, s2, s3, s4, s5, s6⟩
    go_simp
    with_reducible rfl
  rotate_left
  · simp only [Act.put, List.setIfInBounds_toArray, List.set_cons_zero, List.set_cons_succ, i64_w, i32_w]
    rfl
  refine take_ (i := 7) (N := some 20) (v := ?_) (a' := ?_) #[true, true, true, true, true, true, true, true, false, false, false, false, false] rfl rfl (by kernel_rfl) (fun _ _ _ h => h) (Or.inl ⟨by rfl, ?_⟩) hHeld ?_ ?_
  rotate_left
  · rintro w' ⟨s0, s1, s2, s3, s4, s5, s6⟩
    go_simp
    with_reducible rfl
  rotate_left
  · simp only [Act.put, List.setIfInBounds_toArray, List.set_cons_zero, List.set_cons_succ, i64_w, i32_w]
    rfl
  refine one_ (i := 8) (N := some 3) #[true, true, true, true, true, true, true, true, true, false, false, false, false] rfl rfl (by kernel_rfl) (by decide) (fun K hK => ?_)
  refine value_ (w1 := (w1.drew.alloc (.cells #[.int .i64 0, .slice none 0 0, .slice none 0 0, .slice none 0 0] 34))) (v := ?_) (by rfl) rfl ?_ ?_
  rotate_left 1
  · go_simp
    first | rfl | (constructor <;> rfl)
  refine hK.out _ _ ⟨cell_old hgl o1, cell_old hgl o2, cell_old hgl o3, cell_old hgl o4, cell_old hgl o5, cell_old hgl o6, cell_old hgl o7⟩ (fun hHeld => ?_)
  clear hK K
  refine norm_ (a' := ?_) ?_ ?_
  rotate_left
  · show Act.put _ (some 3) _ = _
    simp only [Act.put, List.setIfInBounds_toArray, List.set_cons_zero, List.set_cons_succ, i64_w, i32_w]
    rfl
  refine one_ (i := 9) (N := none) #[true, true, true, true, true, true, true, true, true, true, false, false, false] rfl rfl (by kernel_rfl) (by decide) (fun K hK => ?_)
  refine skip_ (w1 := (w1.drew.alloc (.cells #[.int .i64 who, .slice A0 S.length c0, .slice A1 I.length c1, .slice A2 own.length c2] 34))) (by rfl) rfl ?_ ?_
  · go_simp
    try rfl
  refine hK.out _ _ ⟨cell_old hgl o1, cell_old hgl o2, cell_old hgl o3, cell_old hgl o4, cell_old hgl o5, cell_old hgl o6, cell_old hgl o7⟩ (fun hHeld => ?_)
  clear hK K
  refine pure_ (i := 10) (N := some 4) (v := ?_) (a' := ?_) #[true, true, true, true, true, true, true, true, true, true, true, false, false] rfl rfl (by kernel_rfl) (fun _ _ _ h => h) (Or.inl ⟨by rfl, ?_⟩) ?_ ?_
  rotate_left
  · intro w'
    go_simp
    with_reducible rfl
  rotate_left
  · simp only [Act.put, List.setIfInBounds_toArray, List.set_cons_zero, List.set_cons_succ, i64_w, i32_w]
    rfl
  refine pure_ (i := 11) (N := some 5) (v := ?_) (a' := ?_) #[true, true, true, true, true, true, true, true, true, true, true, true, false] rfl rfl (by kernel_rfl) (fun _ _ _ h => h) (Or.inl ⟨by rfl, ?_⟩) ?_ ?_
  rotate_left
  · intro w'
    go_simp
    with_reducible rfl
  rotate_left
  · simp only [Act.put, List.setIfInBounds_toArray, List.set_cons_zero, List.set_cons_succ, i64_w, i32_w]
    rfl
  refine pure_ (i := 12) (N := some 6) (v := ?_) (a' := ?_) #[true, true, true, true, true, true, true, true, true, true, true, true, true] rfl rfl (by kernel_rfl) (fun _ _ _ h => h) (Or.inl ⟨by rfl, ?_⟩) ?_ ?_
  rotate_left
  · intro w'
    go_simp
    with_reducible rfl
  rotate_left
  · simp only [Act.put, List.setIfInBounds_toArray, List.set_cons_zero, List.set_cons_succ, i64_w, i32_w]
    rfl
  refine done_ (by kernel_rfl) ?_

  generalize hW3 : World.alloc (World.drew w1) _ = w3
  have HB3 := Aside0.mk (show Below w.heap.size w w3 from hW3 ▸ below_alloc (below_drew HB1.out) _)
  have HX3 := Aside0.mk (show w3.heap[w.heap.size + 1]? = some (.cells #[.int .i64 who, .slice A0 S.length c0, .slice A1 I.length c1, .slice A2 own.length c2] 34 (0, 0)) from by
    rw [← hW3, ← hz1]; exact heap_alloc_new w1.drew _)
  clear hW3 o1 o2 o3 o4 o5 o6 o7 hgl HB1 HX1 hz1
  go_wp2_with (first
    | (go_at_call 8; (with_reducible refine (HN.out _ HB3.out HX3.out).mono ?_); rintro e w4 ⟨gp, rfl, hp⟩; have hx := hp.box List.mem_cons_self; have y0 : w4.cell? ⟨w.heap.size + 1, 0, none⟩ = some (.int .i64 who) := blk_cell hx 0; have y1 : w4.cell? ⟨w.heap.size + 1, 1, none⟩ = some (.slice A0 S.length c0) := blk_cell hx 1; have y2 : w4.cell? ⟨w.heap.size + 1, 2, none⟩ = some (.slice A1 I.length c1) := blk_cell hx 2; have y3 : w4.cell? ⟨w.heap.size + 1, 3, none⟩ = some (.slice A2 own.length c2) := blk_cell hx 3; have HP := Aside0.mk hp; have HR0 := Aside0.mk (rd_below HH.out.1 hp.below); have HR1 := Aside0.mk (rd_below HH.out.2.1 hp.below); have HR2 := Aside0.mk (rd_below HH.out.2.2 hp.below); clear hp hx)
    | (go_at_call 9; (with_reducible refine (HP.out.send HR0.out HR1.out HR2.out HO.out _ _ _ HS.out).mono ?_); rintro e w5 ⟨A5, c5, rfl, hp⟩; have hx := hp.box List.mem_cons_self; clear HP HR0 HR1 HR2 y0 y1 y2 y3; have y1 : w5.cell? ⟨w.heap.size + 1, 1, none⟩ = some (.slice A0 S.length c0) := blk_cell hx 1; have y3 : w5.cell? ⟨w.heap.size + 1, 3, none⟩ = some (.slice A2 own.length c2) := blk_cell hx 3; have HP := Aside0.mk hp; clear hp hx)
    | (go_at_call 13; (with_reducible refine (HP.out.len tw HLen.out).mono ?_); rintro e w6 ⟨rfl, rfl⟩)
    | (go_at_call 14; (with_reducible refine (HP.out.less1 (x := 2 * tw + 1) (rd_below HH.out.1 HP.out.below) HSl.out HK.out rfl).mono ?_); rintro e w7 ⟨A7, c7, rfl, hp⟩; have hx := hp.box List.mem_cons_self; clear HP y1 y3; have y3 : w7.cell? ⟨w.heap.size + 1, 3, none⟩ = some (.slice A2 own.length c2) := blk_cell hx 3; have HP := Aside0.mk hp; clear hp hx)
    | (go_at_call 15; (with_reducible refine (HP.out.within (HP.out.row List.mem_cons_self) (rd_below HH.out.2.2 HP.out.below) HKl.out HO.out HWi.out).mono ?_); rintro e w8 ⟨rfl, hp⟩; clear HP; have HP := Aside0.mk hp; clear hp)
    | (go_at_call 16; (with_reducible refine (HP.out.same (HP.out.row (List.mem_cons_of_mem _ List.mem_cons_self)) (HP.out.row List.mem_cons_self) HKl.out (decide_eq_true rfl)).mono ?_); rintro e w8 ⟨rfl, hp⟩; clear HP; have HP := Aside0.mk hp; clear hp)
    | (go_at_call 12; (with_reducible refine (awake_calls _).mono ?_); rintro e w9 ⟨rfl, hb⟩; have HB9 := Aside0.mk (below_step HP.out.below hb); clear hb))
  all_goals go_ret
  all_goals exact ⟨rfl, HB9.out⟩
set_option maxHeartbeats 4000000 in
set_option maxRecDepth 100000 in
theorem den_d (kind tw who : Int) (A0 : Option Addr) (c0 : Nat) (S : List Int) (A1 : Option Addr) (c1 : Nat) (I : List Int) (A2 : Option Addr) (c2 : Nat) (own : List Int) (text : ByteArray) (op : Bool) (w : World) (h0 : Rd w A0 c0 S) (h1 : Rd w A1 c1 I) (h2 : Rd w A2 c2 own) (ho : own.length ≤ 17592186044415)
    (htw : 0 ≤ tw ∧ tw < 4) (hS : S.length ≤ 64) (L' : List (List Msg)) (K : List Int) (hs : sendL L4 3 who S I own tw text op = ([], 0, L')) (hlen : lenL L' tw = 0) (hK : keptL S [2 * tw + 1] false = K) (hKn : K ≠ []) (hop : op = true) (hwi : ¬ Within K own) : Calls Try.prog 4 #[.agg #[.int .i64 kind, .int .i64 tw, .int .i64 who, .slice A0 S.length c0, .slice A1 I.length c1, .slice A2 own.length c2, .string text, .bool op]] w fun e w' => e = .returned (.bool true) ∧ Below w.heap.size w w' := by
  have HX := Aside0.mk (show ∀ W1, w.alloc (.cells #[.int .i64 kind, .int .i64 tw, .int .i64 who, .slice A0 S.length c0, .slice A1 I.length c1, .slice A2 own.length c2, .string text, .bool op] 43) = W1 → Below w.heap.size w W1 ∧ W1.heap[w.heap.size]? = some (.cells #[.int .i64 kind, .int .i64 tw, .int .i64 who, .slice A0 S.length c0, .slice A1 I.length c1, .slice A2 own.length c2, .string text, .bool op] 43 (0, 0)) ∧ W1.heap.size = w.heap.size + 1 from fun W1 e => e ▸ ⟨below_alloc (Below.refl _ _) _, heap_alloc_new w _, by simp⟩)
  have HH := Aside0.mk (And.intro h0 (And.intro h1 h2))
  have HO := Aside0.mk ho
  have HN := Aside0.mk (fun (W : World) (hb : Below w.heap.size w W) (hx : W.heap[w.heap.size + 1]? = some (.cells #[.int .i64 who, .slice A0 S.length c0, .slice A1 I.length c1, .slice A2 own.length c2] 34 (0, 0))) => (show Calls Try.prog 8 #[.int .i64 4, .int .i64 3] W fun e W' => ∃ gp, e = .returned (.tuple #[.pointer (some ⟨gp, 0, none⟩), .int .i64 0]) ∧ PS w gp 3 L4 [] [(w.heap.size + 1, #[.int .i64 who, .slice A0 S.length c0, .slice A1 I.length c1, .slice A2 own.length c2], 34)] W' from PS.newB w W hb [(w.heap.size + 1, #[.int .i64 who, .slice A0 S.length c0, .slice A1 I.length c1, .slice A2 own.length c2], 34)] (fun b hm => by rw [List.mem_singleton.1 hm]; exact hx) 4 3 (by decide) (by decide) (by decide) (by decide)))
  have HS := Aside0.mk hs
  have HLen := Aside0.mk hlen
  have HK := Aside0.mk hK
  have HSl := Aside0.mk (show S.length ≤ 17592186044415 by omega)
  have e1 : wrap64 (2 * tw) = 2 * tw := by unfold wrap64; omega
  have e2 : wrap64 (2 * tw + 1) = 2 * tw + 1 := by unfold wrap64; omega
  have hk1 := kept_len S [2 * tw + 1] false
  rw [hK] at hk1
  have HKl := Aside0.mk (show K.length ≤ 17592186044415 by omega)
  have d0 : ((K.length : Int) == 0) = false := beq_false_of_ne (by have := List.length_pos_iff.2 hKn; omega)
  have d1 : (K.length = 0) = False := eq_false (by have := List.length_pos_iff.2 hKn; omega)
  have d2 : (K = []) = False := eq_false hKn
  clear hk1
  subst hop
  have HWi := Aside0.mk (decide_eq_false hwi)
  clear h0 h1 h2 ho hs hlen hK hS htw hKn hwi
  go_enter Try.func4, Try.ntmps4
  go_wp2
  generalize hW1 : World.alloc w _ = w1
  obtain ⟨hb1, hx1, hz1⟩ := HX.out w1 hW1
  have HB1 := Aside0.mk hb1
  have HX1 := Aside0.mk hx1
  clear HX hW1 hb1
  have o1 : w1.cell? ⟨w.heap.size, 1, none⟩ = some (.int .i64 tw) := blk_cell hx1 1
  have o2 : w1.cell? ⟨w.heap.size, 2, none⟩ = some (.int .i64 who) := blk_cell hx1 2
  have o3 : w1.cell? ⟨w.heap.size, 3, none⟩ = some (.slice A0 S.length c0) := blk_cell hx1 3
  have o4 : w1.cell? ⟨w.heap.size, 4, none⟩ = some (.slice A1 I.length c1) := blk_cell hx1 4
  have o5 : w1.cell? ⟨w.heap.size, 5, none⟩ = some (.slice A2 own.length c2) := blk_cell hx1 5
  have o6 : w1.cell? ⟨w.heap.size, 6, none⟩ = some (.string text) := blk_cell hx1 6
  have o7 : w1.cell? ⟨w.heap.size, 7, none⟩ = some (.bool true) := blk_cell hx1 7
  clear hx1
  have hgl : w.heap.size < w1.heap.size := by omega
  refine start_ (n := 13) (S := fun w' => w'.cell? ⟨w.heap.size, 1, none⟩ = some (.int .i64 tw) ∧ w'.cell? ⟨w.heap.size, 2, none⟩ = some (.int .i64 who) ∧ w'.cell? ⟨w.heap.size, 3, none⟩ = some (.slice A0 S.length c0) ∧ w'.cell? ⟨w.heap.size, 4, none⟩ = some (.slice A1 I.length c1) ∧ w'.cell? ⟨w.heap.size, 5, none⟩ = some (.slice A2 own.length c2) ∧ w'.cell? ⟨w.heap.size, 6, none⟩ = some (.string text) ∧ w'.cell? ⟨w.heap.size, 7, none⟩ = some (.bool true)) (ds := []) #[false, false, false, false, false, false, false, false, false, false, false, false, false] (by kernel_rfl) rfl rfl ⟨o1, o2, o3, o4, o5, o6, o7⟩ (fun hHeld => ?_)
  refine pure_ (i := 0) (N := some 13) (v := ?_) (a' := ?_) #[true, false, false, false, false, false, false, false, false, false, false, false, false] rfl rfl (by kernel_rfl) (fun _ _ _ h => h) (Or.inl ⟨by rfl, ?_⟩) ?_ ?_
  rotate_left
  · intro w'
    go_simp
    with_reducible rfl
  rotate_left
  · simp only [Act.put, List.setIfInBounds_toArray, List.set_cons_zero, List.set_cons_succ, i64_w, i32_w]
    rfl
  refine pure_ (i := 2) (N := some 15) (v := ?_) (a' := ?_) #[true, false, true, false, false, false, false, false, false, false, false, false, false] rfl rfl (by kernel_rfl) (fun _ _ _ h => h) (Or.inl ⟨by rfl, ?_⟩) ?_ ?_
  rotate_left
  · intro w'
    go_simp
    with_reducible rfl
  rotate_left
  · simp only [Act.put, List.setIfInBounds_toArray, List.set_cons_zero, List.set_cons_succ, i64_w, i32_w]
    rfl
  refine pure_ (i := 4) (N := some 17) (v := ?_) (a' := ?_) #[true, false, true, false, true, false, false, false, false, false, false, false, false] rfl rfl (by kernel_rfl) (fun _ _ _ h => h) (Or.inl ⟨by rfl, ?_⟩) ?_ ?_
  rotate_left
  · intro w'
    go_simp
    with_reducible rfl
  rotate_left
  · simp only [Act.put, List.setIfInBounds_toArray, List.set_cons_zero, List.set_cons_succ, i64_w, i32_w]
    rfl
  refine pure_ (i := 6) (N := some 19) (v := ?_) (a' := ?_) #[true, false, true, false, true, false, true, false, false, false, false, false, false] rfl rfl (by kernel_rfl) (fun _ _ _ h => h) (Or.inl ⟨by rfl, ?_⟩) ?_ ?_
  rotate_left
  · intro w'
    go_simp
    with_reducible rfl
  rotate_left
  · simp only [Act.put, List.setIfInBounds_toArray, List.set_cons_zero, List.set_cons_succ, i64_w, i32_w]
    rfl
  refine take_ (i := 1) (N := some 14) (v := ?_) (a' := ?_) #[true, true, true, false, true, false, true, false, false, false, false, false, false] rfl rfl (by kernel_rfl) (fun _ _ _ h => h) (Or.inl ⟨by rfl, ?_⟩) hHeld ?_ ?_
  rotate_left
  · rintro w' ⟨s0, s1, s2, s3, s4, s5, s6⟩
    go_simp
    with_reducible rfl
  rotate_left
  · simp only [Act.put, List.setIfInBounds_toArray, List.set_cons_zero, List.set_cons_succ, i64_w, i32_w]
    rfl
  refine take_ (i := 3) (N := some 16) (v := ?_) (a' := ?_) #[true, true, true, true, true, false, true, false, false, false, false, false, false] rfl rfl (by kernel_rfl) (fun _ _ _ h => h) (Or.inl ⟨by rfl, ?_⟩) hHeld ?_ ?_
  rotate_left
  · rintro w' ⟨s0, s1, s2, s3, s4, s5, s6⟩
    go_simp
    with_reducible rfl
  rotate_left
  · simp only [Act.put, List.setIfInBounds_toArray, List.set_cons_zero, List.set_cons_succ, i64_w, i32_w]
    rfl
  refine take_ (i := 5) (N := some 18) (v := ?_) (a' := ?_) #[true, true, true, true, true, true, true, false, false, false, false, false, false] rfl rfl (by kernel_rfl) (fun _ _ _ h => h) (Or.inl ⟨by rfl, ?_⟩) hHeld ?_ ?_
  rotate_left
  · rintro w' ⟨s0, s1, s2, s3, s4, s5, s6⟩
    go_simp
    with_reducible rfl
  rotate_left
  · simp only [Act.put, List.setIfInBounds_toArray, List.set_cons_zero, List.set_cons_succ, i64_w, i32_w]
    rfl
  refine take_ (i := 7) (N := some 20) (v := ?_) (a' := ?_) #[true, true, true, true, true, true, true, true, false, false, false, false, false] rfl rfl (by kernel_rfl) (fun _ _ _ h => h) (Or.inl ⟨by rfl, ?_⟩) hHeld ?_ ?_
  rotate_left
  · rintro w' ⟨s0, s1, s2, s3, s4, s5, s6⟩
    go_simp
    with_reducible rfl
  rotate_left
  · simp only [Act.put, List.setIfInBounds_toArray, List.set_cons_zero, List.set_cons_succ, i64_w, i32_w]
    rfl
  refine one_ (i := 8) (N := some 3) #[true, true, true, true, true, true, true, true, true, false, false, false, false] rfl rfl (by kernel_rfl) (by decide) (fun K hK => ?_)
  refine value_ (w1 := (w1.drew.alloc (.cells #[.int .i64 0, .slice none 0 0, .slice none 0 0, .slice none 0 0] 34))) (v := ?_) (by rfl) rfl ?_ ?_
  rotate_left 1
  · go_simp
    first | rfl | (constructor <;> rfl)
  refine hK.out _ _ ⟨cell_old hgl o1, cell_old hgl o2, cell_old hgl o3, cell_old hgl o4, cell_old hgl o5, cell_old hgl o6, cell_old hgl o7⟩ (fun hHeld => ?_)
  clear hK K
  refine norm_ (a' := ?_) ?_ ?_
  rotate_left
  · show Act.put _ (some 3) _ = _
    simp only [Act.put, List.setIfInBounds_toArray, List.set_cons_zero, List.set_cons_succ, i64_w, i32_w]
    rfl
  refine one_ (i := 9) (N := none) #[true, true, true, true, true, true, true, true, true, true, false, false, false] rfl rfl (by kernel_rfl) (by decide) (fun K hK => ?_)
  refine skip_ (w1 := (w1.drew.alloc (.cells #[.int .i64 who, .slice A0 S.length c0, .slice A1 I.length c1, .slice A2 own.length c2] 34))) (by rfl) rfl ?_ ?_
  · go_simp
    try rfl
  refine hK.out _ _ ⟨cell_old hgl o1, cell_old hgl o2, cell_old hgl o3, cell_old hgl o4, cell_old hgl o5, cell_old hgl o6, cell_old hgl o7⟩ (fun hHeld => ?_)
  clear hK K
  refine pure_ (i := 10) (N := some 4) (v := ?_) (a' := ?_) #[true, true, true, true, true, true, true, true, true, true, true, false, false] rfl rfl (by kernel_rfl) (fun _ _ _ h => h) (Or.inl ⟨by rfl, ?_⟩) ?_ ?_
  rotate_left
  · intro w'
    go_simp
    with_reducible rfl
  rotate_left
  · simp only [Act.put, List.setIfInBounds_toArray, List.set_cons_zero, List.set_cons_succ, i64_w, i32_w]
    rfl
  refine pure_ (i := 11) (N := some 5) (v := ?_) (a' := ?_) #[true, true, true, true, true, true, true, true, true, true, true, true, false] rfl rfl (by kernel_rfl) (fun _ _ _ h => h) (Or.inl ⟨by rfl, ?_⟩) ?_ ?_
  rotate_left
  · intro w'
    go_simp
    with_reducible rfl
  rotate_left
  · simp only [Act.put, List.setIfInBounds_toArray, List.set_cons_zero, List.set_cons_succ, i64_w, i32_w]
    rfl
  refine pure_ (i := 12) (N := some 6) (v := ?_) (a' := ?_) #[true, true, true, true, true, true, true, true, true, true, true, true, true] rfl rfl (by kernel_rfl) (fun _ _ _ h => h) (Or.inl ⟨by rfl, ?_⟩) ?_ ?_
  rotate_left
  · intro w'
    go_simp
    with_reducible rfl
  rotate_left
  · simp only [Act.put, List.setIfInBounds_toArray, List.set_cons_zero, List.set_cons_succ, i64_w, i32_w]
    rfl
  refine done_ (by kernel_rfl) ?_

  generalize hW3 : World.alloc (World.drew w1) _ = w3
  have HB3 := Aside0.mk (show Below w.heap.size w w3 from hW3 ▸ below_alloc (below_drew HB1.out) _)
  have HX3 := Aside0.mk (show w3.heap[w.heap.size + 1]? = some (.cells #[.int .i64 who, .slice A0 S.length c0, .slice A1 I.length c1, .slice A2 own.length c2] 34 (0, 0)) from by
    rw [← hW3, ← hz1]; exact heap_alloc_new w1.drew _)
  clear hW3 o1 o2 o3 o4 o5 o6 o7 hgl HB1 HX1 hz1
  go_wp2_with (first
    | (go_at_call 8; (with_reducible refine (HN.out _ HB3.out HX3.out).mono ?_); rintro e w4 ⟨gp, rfl, hp⟩; have hx := hp.box List.mem_cons_self; have y0 : w4.cell? ⟨w.heap.size + 1, 0, none⟩ = some (.int .i64 who) := blk_cell hx 0; have y1 : w4.cell? ⟨w.heap.size + 1, 1, none⟩ = some (.slice A0 S.length c0) := blk_cell hx 1; have y2 : w4.cell? ⟨w.heap.size + 1, 2, none⟩ = some (.slice A1 I.length c1) := blk_cell hx 2; have y3 : w4.cell? ⟨w.heap.size + 1, 3, none⟩ = some (.slice A2 own.length c2) := blk_cell hx 3; have HP := Aside0.mk hp; have HR0 := Aside0.mk (rd_below HH.out.1 hp.below); have HR1 := Aside0.mk (rd_below HH.out.2.1 hp.below); have HR2 := Aside0.mk (rd_below HH.out.2.2 hp.below); clear hp hx)
    | (go_at_call 9; (with_reducible refine (HP.out.send HR0.out HR1.out HR2.out HO.out _ _ _ HS.out).mono ?_); rintro e w5 ⟨A5, c5, rfl, hp⟩; have hx := hp.box List.mem_cons_self; clear HP HR0 HR1 HR2 y0 y1 y2 y3; have y1 : w5.cell? ⟨w.heap.size + 1, 1, none⟩ = some (.slice A0 S.length c0) := blk_cell hx 1; have y3 : w5.cell? ⟨w.heap.size + 1, 3, none⟩ = some (.slice A2 own.length c2) := blk_cell hx 3; have HP := Aside0.mk hp; clear hp hx)
    | (go_at_call 13; (with_reducible refine (HP.out.len tw HLen.out).mono ?_); rintro e w6 ⟨rfl, rfl⟩)
    | (go_at_call 14; (with_reducible refine (HP.out.less1 (x := 2 * tw + 1) (rd_below HH.out.1 HP.out.below) HSl.out HK.out rfl).mono ?_); rintro e w7 ⟨A7, c7, rfl, hp⟩; have hx := hp.box List.mem_cons_self; clear HP y1 y3; have y3 : w7.cell? ⟨w.heap.size + 1, 3, none⟩ = some (.slice A2 own.length c2) := blk_cell hx 3; have HP := Aside0.mk hp; clear hp hx)
    | (go_at_call 15; (with_reducible refine (HP.out.within (HP.out.row List.mem_cons_self) (rd_below HH.out.2.2 HP.out.below) HKl.out HO.out HWi.out).mono ?_); rintro e w8 ⟨rfl, hp⟩; clear HP; have HP := Aside0.mk hp; clear hp)
    | (go_at_call 12; (with_reducible refine (awake_calls _).mono ?_); rintro e w9 ⟨rfl, hb⟩; have HB9 := Aside0.mk (below_step HP.out.below hb); clear hb))
  all_goals go_ret
  all_goals exact ⟨rfl, HB9.out⟩
set_option maxHeartbeats 4000000 in
set_option maxRecDepth 100000 in
theorem den_e (kind tw who : Int) (A0 : Option Addr) (c0 : Nat) (S : List Int) (A1 : Option Addr) (c1 : Nat) (I : List Int) (A2 : Option Addr) (c2 : Nat) (own : List Int) (text : ByteArray) (op : Bool) (w : World) (h0 : Rd w A0 c0 S) (h1 : Rd w A1 c1 I) (h2 : Rd w A2 c2 own) (ho : own.length ≤ 17592186044415)
    (htw : 0 ≤ tw ∧ tw < 4) (hS : S.length ≤ 64) (L' : List (List Msg)) (K : List Int) (hs : sendL L4 3 who S I own tw text op = ([], 0, L')) (hlen : lenL L' tw = 0) (hK : keptL S [2 * tw + 1] false = K) (hKn : K ≠ []) (hop : op = false) : Calls Try.prog 4 #[.agg #[.int .i64 kind, .int .i64 tw, .int .i64 who, .slice A0 S.length c0, .slice A1 I.length c1, .slice A2 own.length c2, .string text, .bool op]] w fun e w' => e = .returned (.bool true) ∧ Below w.heap.size w w' := by
  have HX := Aside0.mk (show ∀ W1, w.alloc (.cells #[.int .i64 kind, .int .i64 tw, .int .i64 who, .slice A0 S.length c0, .slice A1 I.length c1, .slice A2 own.length c2, .string text, .bool op] 43) = W1 → Below w.heap.size w W1 ∧ W1.heap[w.heap.size]? = some (.cells #[.int .i64 kind, .int .i64 tw, .int .i64 who, .slice A0 S.length c0, .slice A1 I.length c1, .slice A2 own.length c2, .string text, .bool op] 43 (0, 0)) ∧ W1.heap.size = w.heap.size + 1 from fun W1 e => e ▸ ⟨below_alloc (Below.refl _ _) _, heap_alloc_new w _, by simp⟩)
  have HH := Aside0.mk (And.intro h0 (And.intro h1 h2))
  have HO := Aside0.mk ho
  have HN := Aside0.mk (fun (W : World) (hb : Below w.heap.size w W) (hx : W.heap[w.heap.size + 1]? = some (.cells #[.int .i64 who, .slice A0 S.length c0, .slice A1 I.length c1, .slice A2 own.length c2] 34 (0, 0))) => (show Calls Try.prog 8 #[.int .i64 4, .int .i64 3] W fun e W' => ∃ gp, e = .returned (.tuple #[.pointer (some ⟨gp, 0, none⟩), .int .i64 0]) ∧ PS w gp 3 L4 [] [(w.heap.size + 1, #[.int .i64 who, .slice A0 S.length c0, .slice A1 I.length c1, .slice A2 own.length c2], 34)] W' from PS.newB w W hb [(w.heap.size + 1, #[.int .i64 who, .slice A0 S.length c0, .slice A1 I.length c1, .slice A2 own.length c2], 34)] (fun b hm => by rw [List.mem_singleton.1 hm]; exact hx) 4 3 (by decide) (by decide) (by decide) (by decide)))
  have HS := Aside0.mk hs
  have HLen := Aside0.mk hlen
  have HK := Aside0.mk hK
  have HSl := Aside0.mk (show S.length ≤ 17592186044415 by omega)
  have e1 : wrap64 (2 * tw) = 2 * tw := by unfold wrap64; omega
  have e2 : wrap64 (2 * tw + 1) = 2 * tw + 1 := by unfold wrap64; omega
  have hk1 := kept_len S [2 * tw + 1] false
  rw [hK] at hk1
  have HKl := Aside0.mk (show K.length ≤ 17592186044415 by omega)
  have d0 : ((K.length : Int) == 0) = false := beq_false_of_ne (by have := List.length_pos_iff.2 hKn; omega)
  have d1 : (K.length = 0) = False := eq_false (by have := List.length_pos_iff.2 hKn; omega)
  have d2 : (K = []) = False := eq_false hKn
  clear hk1
  subst hop
  clear h0 h1 h2 ho hs hlen hK hS htw hKn
  go_enter Try.func4, Try.ntmps4
  go_wp2
  generalize hW1 : World.alloc w _ = w1
  obtain ⟨hb1, hx1, hz1⟩ := HX.out w1 hW1
  have HB1 := Aside0.mk hb1
  have HX1 := Aside0.mk hx1
  clear HX hW1 hb1
  have o1 : w1.cell? ⟨w.heap.size, 1, none⟩ = some (.int .i64 tw) := blk_cell hx1 1
  have o2 : w1.cell? ⟨w.heap.size, 2, none⟩ = some (.int .i64 who) := blk_cell hx1 2
  have o3 : w1.cell? ⟨w.heap.size, 3, none⟩ = some (.slice A0 S.length c0) := blk_cell hx1 3
  have o4 : w1.cell? ⟨w.heap.size, 4, none⟩ = some (.slice A1 I.length c1) := blk_cell hx1 4
  have o5 : w1.cell? ⟨w.heap.size, 5, none⟩ = some (.slice A2 own.length c2) := blk_cell hx1 5
  have o6 : w1.cell? ⟨w.heap.size, 6, none⟩ = some (.string text) := blk_cell hx1 6
  have o7 : w1.cell? ⟨w.heap.size, 7, none⟩ = some (.bool false) := blk_cell hx1 7
  clear hx1
  have hgl : w.heap.size < w1.heap.size := by omega
  refine start_ (n := 13) (S := fun w' => w'.cell? ⟨w.heap.size, 1, none⟩ = some (.int .i64 tw) ∧ w'.cell? ⟨w.heap.size, 2, none⟩ = some (.int .i64 who) ∧ w'.cell? ⟨w.heap.size, 3, none⟩ = some (.slice A0 S.length c0) ∧ w'.cell? ⟨w.heap.size, 4, none⟩ = some (.slice A1 I.length c1) ∧ w'.cell? ⟨w.heap.size, 5, none⟩ = some (.slice A2 own.length c2) ∧ w'.cell? ⟨w.heap.size, 6, none⟩ = some (.string text) ∧ w'.cell? ⟨w.heap.size, 7, none⟩ = some (.bool false)) (ds := []) #[false, false, false, false, false, false, false, false, false, false, false, false, false] (by kernel_rfl) rfl rfl ⟨o1, o2, o3, o4, o5, o6, o7⟩ (fun hHeld => ?_)
  refine pure_ (i := 0) (N := some 13) (v := ?_) (a' := ?_) #[true, false, false, false, false, false, false, false, false, false, false, false, false] rfl rfl (by kernel_rfl) (fun _ _ _ h => h) (Or.inl ⟨by rfl, ?_⟩) ?_ ?_
  rotate_left
  · intro w'
    go_simp
    with_reducible rfl
  rotate_left
  · simp only [Act.put, List.setIfInBounds_toArray, List.set_cons_zero, List.set_cons_succ, i64_w, i32_w]
    rfl
  refine pure_ (i := 2) (N := some 15) (v := ?_) (a' := ?_) #[true, false, true, false, false, false, false, false, false, false, false, false, false] rfl rfl (by kernel_rfl) (fun _ _ _ h => h) (Or.inl ⟨by rfl, ?_⟩) ?_ ?_
  rotate_left
  · intro w'
    go_simp
    with_reducible rfl
  rotate_left
  · simp only [Act.put, List.setIfInBounds_toArray, List.set_cons_zero, List.set_cons_succ, i64_w, i32_w]
    rfl
  refine pure_ (i := 4) (N := some 17) (v := ?_) (a' := ?_) #[true, false, true, false, true, false, false, false, false, false, false, false, false] rfl rfl (by kernel_rfl) (fun _ _ _ h => h) (Or.inl ⟨by rfl, ?_⟩) ?_ ?_
  rotate_left
  · intro w'
    go_simp
    with_reducible rfl
  rotate_left
  · simp only [Act.put, List.setIfInBounds_toArray, List.set_cons_zero, List.set_cons_succ, i64_w, i32_w]
    rfl
  refine pure_ (i := 6) (N := some 19) (v := ?_) (a' := ?_) #[true, false, true, false, true, false, true, false, false, false, false, false, false] rfl rfl (by kernel_rfl) (fun _ _ _ h => h) (Or.inl ⟨by rfl, ?_⟩) ?_ ?_
  rotate_left
  · intro w'
    go_simp
    with_reducible rfl
  rotate_left
  · simp only [Act.put, List.setIfInBounds_toArray, List.set_cons_zero, List.set_cons_succ, i64_w, i32_w]
    rfl
  refine take_ (i := 1) (N := some 14) (v := ?_) (a' := ?_) #[true, true, true, false, true, false, true, false, false, false, false, false, false] rfl rfl (by kernel_rfl) (fun _ _ _ h => h) (Or.inl ⟨by rfl, ?_⟩) hHeld ?_ ?_
  rotate_left
  · rintro w' ⟨s0, s1, s2, s3, s4, s5, s6⟩
    go_simp
    with_reducible rfl
  rotate_left
  · simp only [Act.put, List.setIfInBounds_toArray, List.set_cons_zero, List.set_cons_succ, i64_w, i32_w]
    rfl
  refine take_ (i := 3) (N := some 16) (v := ?_) (a' := ?_) #[true, true, true, true, true, false, true, false, false, false, false, false, false] rfl rfl (by kernel_rfl) (fun _ _ _ h => h) (Or.inl ⟨by rfl, ?_⟩) hHeld ?_ ?_
  rotate_left
  · rintro w' ⟨s0, s1, s2, s3, s4, s5, s6⟩
    go_simp
    with_reducible rfl
  rotate_left
  · simp only [Act.put, List.setIfInBounds_toArray, List.set_cons_zero, List.set_cons_succ, i64_w, i32_w]
    rfl
  refine take_ (i := 5) (N := some 18) (v := ?_) (a' := ?_) #[true, true, true, true, true, true, true, false, false, false, false, false, false] rfl rfl (by kernel_rfl) (fun _ _ _ h => h) (Or.inl ⟨by rfl, ?_⟩) hHeld ?_ ?_
  rotate_left
  · rintro w' ⟨s0, s1, s2, s3, s4, s5, s6⟩
    go_simp
    with_reducible rfl
  rotate_left
  · simp only [Act.put, List.setIfInBounds_toArray, List.set_cons_zero, List.set_cons_succ, i64_w, i32_w]
    rfl
  refine take_ (i := 7) (N := some 20) (v := ?_) (a' := ?_) #[true, true, true, true, true, true, true, true, false, false, false, false, false] rfl rfl (by kernel_rfl) (fun _ _ _ h => h) (Or.inl ⟨by rfl, ?_⟩) hHeld ?_ ?_
  rotate_left
  · rintro w' ⟨s0, s1, s2, s3, s4, s5, s6⟩
    go_simp
    with_reducible rfl
  rotate_left
  · simp only [Act.put, List.setIfInBounds_toArray, List.set_cons_zero, List.set_cons_succ, i64_w, i32_w]
    rfl
  refine one_ (i := 8) (N := some 3) #[true, true, true, true, true, true, true, true, true, false, false, false, false] rfl rfl (by kernel_rfl) (by decide) (fun K hK => ?_)
  refine value_ (w1 := (w1.drew.alloc (.cells #[.int .i64 0, .slice none 0 0, .slice none 0 0, .slice none 0 0] 34))) (v := ?_) (by rfl) rfl ?_ ?_
  rotate_left 1
  · go_simp
    first | rfl | (constructor <;> rfl)
  refine hK.out _ _ ⟨cell_old hgl o1, cell_old hgl o2, cell_old hgl o3, cell_old hgl o4, cell_old hgl o5, cell_old hgl o6, cell_old hgl o7⟩ (fun hHeld => ?_)
  clear hK K
  refine norm_ (a' := ?_) ?_ ?_
  rotate_left
  · show Act.put _ (some 3) _ = _
    simp only [Act.put, List.setIfInBounds_toArray, List.set_cons_zero, List.set_cons_succ, i64_w, i32_w]
    rfl
  refine one_ (i := 9) (N := none) #[true, true, true, true, true, true, true, true, true, true, false, false, false] rfl rfl (by kernel_rfl) (by decide) (fun K hK => ?_)
  refine skip_ (w1 := (w1.drew.alloc (.cells #[.int .i64 who, .slice A0 S.length c0, .slice A1 I.length c1, .slice A2 own.length c2] 34))) (by rfl) rfl ?_ ?_
  · go_simp
    try rfl
  refine hK.out _ _ ⟨cell_old hgl o1, cell_old hgl o2, cell_old hgl o3, cell_old hgl o4, cell_old hgl o5, cell_old hgl o6, cell_old hgl o7⟩ (fun hHeld => ?_)
  clear hK K
  refine pure_ (i := 10) (N := some 4) (v := ?_) (a' := ?_) #[true, true, true, true, true, true, true, true, true, true, true, false, false] rfl rfl (by kernel_rfl) (fun _ _ _ h => h) (Or.inl ⟨by rfl, ?_⟩) ?_ ?_
  rotate_left
  · intro w'
    go_simp
    with_reducible rfl
  rotate_left
  · simp only [Act.put, List.setIfInBounds_toArray, List.set_cons_zero, List.set_cons_succ, i64_w, i32_w]
    rfl
  refine pure_ (i := 11) (N := some 5) (v := ?_) (a' := ?_) #[true, true, true, true, true, true, true, true, true, true, true, true, false] rfl rfl (by kernel_rfl) (fun _ _ _ h => h) (Or.inl ⟨by rfl, ?_⟩) ?_ ?_
  rotate_left
  · intro w'
    go_simp
    with_reducible rfl
  rotate_left
  · simp only [Act.put, List.setIfInBounds_toArray, List.set_cons_zero, List.set_cons_succ, i64_w, i32_w]
    rfl
  refine pure_ (i := 12) (N := some 6) (v := ?_) (a' := ?_) #[true, true, true, true, true, true, true, true, true, true, true, true, true] rfl rfl (by kernel_rfl) (fun _ _ _ h => h) (Or.inl ⟨by rfl, ?_⟩) ?_ ?_
  rotate_left
  · intro w'
    go_simp
    with_reducible rfl
  rotate_left
  · simp only [Act.put, List.setIfInBounds_toArray, List.set_cons_zero, List.set_cons_succ, i64_w, i32_w]
    rfl
  refine done_ (by kernel_rfl) ?_

  generalize hW3 : World.alloc (World.drew w1) _ = w3
  have HB3 := Aside0.mk (show Below w.heap.size w w3 from hW3 ▸ below_alloc (below_drew HB1.out) _)
  have HX3 := Aside0.mk (show w3.heap[w.heap.size + 1]? = some (.cells #[.int .i64 who, .slice A0 S.length c0, .slice A1 I.length c1, .slice A2 own.length c2] 34 (0, 0)) from by
    rw [← hW3, ← hz1]; exact heap_alloc_new w1.drew _)
  clear hW3 o1 o2 o3 o4 o5 o6 o7 hgl HB1 HX1 hz1
  go_wp2_with (first
    | (go_at_call 8; (with_reducible refine (HN.out _ HB3.out HX3.out).mono ?_); rintro e w4 ⟨gp, rfl, hp⟩; have hx := hp.box List.mem_cons_self; have y0 : w4.cell? ⟨w.heap.size + 1, 0, none⟩ = some (.int .i64 who) := blk_cell hx 0; have y1 : w4.cell? ⟨w.heap.size + 1, 1, none⟩ = some (.slice A0 S.length c0) := blk_cell hx 1; have y2 : w4.cell? ⟨w.heap.size + 1, 2, none⟩ = some (.slice A1 I.length c1) := blk_cell hx 2; have y3 : w4.cell? ⟨w.heap.size + 1, 3, none⟩ = some (.slice A2 own.length c2) := blk_cell hx 3; have HP := Aside0.mk hp; have HR0 := Aside0.mk (rd_below HH.out.1 hp.below); have HR1 := Aside0.mk (rd_below HH.out.2.1 hp.below); have HR2 := Aside0.mk (rd_below HH.out.2.2 hp.below); clear hp hx)
    | (go_at_call 9; (with_reducible refine (HP.out.send HR0.out HR1.out HR2.out HO.out _ _ _ HS.out).mono ?_); rintro e w5 ⟨A5, c5, rfl, hp⟩; have hx := hp.box List.mem_cons_self; clear HP HR0 HR1 HR2 y0 y1 y2 y3; have y1 : w5.cell? ⟨w.heap.size + 1, 1, none⟩ = some (.slice A0 S.length c0) := blk_cell hx 1; have y3 : w5.cell? ⟨w.heap.size + 1, 3, none⟩ = some (.slice A2 own.length c2) := blk_cell hx 3; have HP := Aside0.mk hp; clear hp hx)
    | (go_at_call 13; (with_reducible refine (HP.out.len tw HLen.out).mono ?_); rintro e w6 ⟨rfl, rfl⟩)
    | (go_at_call 14; (with_reducible refine (HP.out.less1 (x := 2 * tw + 1) (rd_below HH.out.1 HP.out.below) HSl.out HK.out rfl).mono ?_); rintro e w7 ⟨A7, c7, rfl, hp⟩; have hx := hp.box List.mem_cons_self; clear HP y1 y3; have y3 : w7.cell? ⟨w.heap.size + 1, 3, none⟩ = some (.slice A2 own.length c2) := blk_cell hx 3; have HP := Aside0.mk hp; clear hp hx)
    | (go_at_call 12; (with_reducible refine (awake_calls _).mono ?_); rintro e w9 ⟨rfl, hb⟩; have HB9 := Aside0.mk (below_step HP.out.below hb); clear hb))
  all_goals go_ret
  all_goals exact ⟨rfl, HB9.out⟩
theorem den_calls (kind tw who : Int) (A0 : Option Addr) (c0 : Nat) (S : List Int) (A1 : Option Addr) (c1 : Nat) (I : List Int) (A2 : Option Addr) (c2 : Nat) (own : List Int) (text : ByteArray) (op : Bool) (w : World) (h0 : Rd w A0 c0 S) (h1 : Rd w A1 c1 I) (h2 : Rd w A2 c2 own) (ho : own.length ≤ 17592186044415)
     : Calls Try.prog 4 #[.agg #[.int .i64 kind, .int .i64 tw, .int .i64 who, .slice A0 S.length c0, .slice A1 I.length c1, .slice A2 own.length c2, .string text, .bool op]] w fun e w' => e = .returned (.bool true) ∧ Below w.heap.size w w' := by
  by_cases hw : (0 ≤ who ∧ who < (L4.length : Int)) ∧ (0 ≤ tw ∧ tw < (L4.length : Int))
  · have htw : 0 ≤ tw ∧ tw < 4 := hw.2
    by_cases hc : Cats own
    · by_cases hm : May S I
      · by_cases hl : 1024 < text.size
        · exact den_a kind tw who A0 c0 S A1 c1 I A2 c2 own text op w h0 h1 h2 ho 4 (by unfold sendL; rw [if_neg (not_not_intro hw), if_neg (not_not_intro hc), if_neg (not_not_intro hm), if_pos hl]) (by decide)
        · have hS := hm.1
          by_cases hf : Within (lackL S tw) (if op then own else [])
          · have hs : sendL L4 3 who S I own tw text op = (lackL S tw, 0, pushL L4 3 tw.toNat (who, text)) := by unfold sendL; rw [if_neg (not_not_intro hw), if_neg (not_not_intro hc), if_neg (not_not_intro hm), if_neg hl, if_neg (not_not_intro hf)]
            rw [lack_kept] at hs hf
            by_cases hK : keptL S [2 * tw + 1] false = []
            · rw [hK] at hs
              exact den_b kind tw who A0 c0 S A1 c1 I A2 c2 own text op w h0 h1 h2 ho htw hS _ hs (len4p htw _) hK
            · cases op with
              | true => exact den_c kind tw who A0 c0 S A1 c1 I A2 c2 own text true w h0 h1 h2 ho htw hS _ _ hs (len4p htw _) rfl hK rfl hf
              | false => exact absurd (List.eq_nil_iff_forall_not_mem.2 (fun x hx => by have := hf x hx; simp at this)) hK
          · have hs : sendL L4 3 who S I own tw text op = ([], 0, L4) := by unfold sendL; rw [if_neg (not_not_intro hw), if_neg (not_not_intro hc), if_neg (not_not_intro hm), if_neg hl, if_pos hf]
            rw [lack_kept] at hf
            have hK : keptL S [2 * tw + 1] false ≠ [] := fun e => hf (by rw [e]; exact fun x hx => by cases hx)
            cases op with
            | true => exact den_d kind tw who A0 c0 S A1 c1 I A2 c2 own text true w h0 h1 h2 ho htw hS _ _ hs (len4 tw) rfl hK rfl hf
            | false => exact den_e kind tw who A0 c0 S A1 c1 I A2 c2 own text false w h0 h1 h2 ho htw hS _ _ hs (len4 tw) rfl hK rfl
      · exact den_a kind tw who A0 c0 S A1 c1 I A2 c2 own text op w h0 h1 h2 ho 20 (by unfold sendL; rw [if_neg (not_not_intro hw), if_neg (not_not_intro hc), if_pos hm]) (by decide)
    · exact den_a kind tw who A0 c0 S A1 c1 I A2 c2 own text op w h0 h1 h2 ho 1 (by unfold sendL; rw [if_neg (not_not_intro hw), if_pos hc]) (by decide)
  · exact den_a kind tw who A0 c0 S A1 c1 I A2 c2 own text op w h0 h1 h2 ho 1 (by unfold sendL; rw [if_pos hw]) (by decide)
end Go.Proofs.Ytclhddldbfdfdaa.PoW
