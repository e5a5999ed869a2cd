/- The law SetPlays, walked by hand. -/
import Derived.Test.YtpidbaaojgdpmaaSetPlayS
namespace Go.Proofs.Ytpidbaaojgdpmaa.PN
open Go.RowKit Go.Proofs.YtpidbaaojgdpmaaW.PrintWords
/-! struct type 41 -/
structure S41 where
  f0 : Int
  f1 : Int
def z41 : S41 := ⟨0, 0⟩
def k41 : Kd S41 := Kd.iso (Kd.pair (Kd.int .i64) (Kd.int .i64)) (fun x : S41 => (x.f0, x.f1))
theorem k41_open {w : World} {x : S41} {cs : List Value} (h : k41.K w x cs) : cs = [.int .i64 x.f0, .int .i64 x.f1] := by
  obtain ⟨_, _, rfl, rfl, rfl⟩ := h
  exact rfl
theorem ops_at {w : World} {A : Option Addr} {xs : List S41} (h : Kd.C k41 w A xs.length xs) (hp : 0 < xs.length) :
    ∃ b o, A = some ⟨b, o, none⟩ ∧ b < w.heap.size ∧ ∀ j, j < xs.length → w.cell? ⟨b, o + j * 2, none⟩ = some (.int .i64 (xs.getD j z41).f0) ∧ w.cell? ⟨b, o + j * 2 + 1, none⟩ = some (.int .i64 (xs.getD j z41).f1) := by
  obtain ⟨b, o, rfl, hb, hc⟩ := Hand.row_at h hp (by decide)
  refine ⟨b, o, rfl, hb, fun j hj => ?_⟩
  obtain ⟨c, hl, hk, hcell⟩ := hc j xs[j] (List.getElem?_eq_getElem hj)
  obtain rfl := k41_open hk
  have h0 := hcell 0 _ rfl
  have h1 := hcell 1 _ rfl
  rw [List.getD_eq_getElem?_getD, List.getElem?_eq_getElem hj]
  exact ⟨h0, h1⟩
end Go.Proofs.Ytpidbaaojgdpmaa.PN
namespace Go.Proofs.Ytpidbaaojgdpmaa.SetW
open Go.RowKit Go.Sort Go.Proofs.YtpidbaaojgdpmaaW.PrintWords Go.Proofs.YtpidbaaojgdpmaaW.PrintMore Go.Proofs.YtpidbaaojgdpmaaW.PrintLast Go.Proofs.Ytpidbaaojgdpmaa.SetF Go.Proofs.Ytpidbaaojgdpmaa.OwnPut Go.Proofs.Ytpidbaaojgdpmaa.PN
set_option linter.unusedVariables false
set_option linter.unusedSimpArgs false
section
variable {w0 W W' : World} {room g : Nat} {v : Value} {ls l : List Int} {A : Option Addr} {c : Nat} {cp : Option (Nat × Value)} {A8 : Option Addr} {c8 : Nat} {old : List Int}
theorem R_below {W0 : World} {u : Value} {x : List Int} (h : Kd.R (Kd.int .i64) 3 W W0.heap.size (fun _ => True) u x) (hb : Below W.heap.size W W') : Kd.R (Kd.int .i64) 3 W' W0.heap.size (fun _ => True) u x := Kd.R_step h (fun k _ hk => hb.block k hk)
theorem add_in (h : Play w0 W room g v l A c l cp A8 c8 old) {x : Int} (hx : x ∈ l) : Calls Try.prog 31 #[.pointer (some ⟨g, 0, none⟩), .int .i64 x] W fun e W' => ∃ v', e = .returned (.int .i64 0) ∧ Play w0 W' room g v' l A c l cp A8 c8 old := by
  have := addP h x
  rwa [show addL room l x = (0, l) from by unfold addL; rw [if_pos hx]] at this
theorem add_full (h : Play w0 W room g v l A c l cp A8 c8 old) {x : Int} (hx : x ∉ l) (hf : l.length = room) : Calls Try.prog 31 #[.pointer (some ⟨g, 0, none⟩), .int .i64 x] W fun e W' => ∃ v', e = .returned (.int .i64 2) ∧ Play w0 W' room g v' l A c l cp A8 c8 old := by
  have := addP h x
  rwa [show addL room l x = (2, l) from by unfold addL; rw [if_neg hx, if_pos hf]] at this
theorem add_new (h : Play w0 W room g v l A c l cp A8 c8 old) {x : Int} (hx : x ∉ l) (hf : l.length ≠ room) : Calls Try.prog 31 #[.pointer (some ⟨g, 0, none⟩), .int .i64 x] W fun e W' => ∃ v', e = .returned (.int .i64 0) ∧ Play w0 W' room g v' (joinL l [x]) A c l cp A8 c8 old := by
  have := addP h x
  rwa [show addL room l x = (0, joinL l [x]) from by unfold addL; rw [if_neg hx, if_neg hf, insL_join h.set.rises hx]] at this
theorem del_in (h : Play w0 W room g v l A c l cp A8 c8 old) {x : Int} (hx : x ∈ l) : Calls Try.prog 32 #[.pointer (some ⟨g, 0, none⟩), .int .i64 x] W fun e W' => ∃ v', e = .returned (.int .i64 0) ∧ Play w0 W' room g v' (keptL l [x] false) A c l cp A8 c8 old := by
  have := delP h x
  rwa [if_pos hx, if_pos hx, dropL_less h.set.rises hx] at this
theorem del_out (h : Play w0 W room g v l A c l cp A8 c8 old) {x : Int} (hx : x ∉ l) : Calls Try.prog 32 #[.pointer (some ⟨g, 0, none⟩), .int .i64 x] W fun e W' => ∃ v', e = .returned (.int .i64 3) ∧ Play w0 W' room g v' (keptL l [x] false) A c l cp A8 c8 old := by
  have := delP h x
  rw [if_neg hx, if_neg hx] at this
  rwa [less_out h.set.rises hx]
theorem hasR_in (h : Play w0 W room g v ls A c l cp A8 c8 old) {x : Int} (hx : x ∈ l) : Calls Try.prog 21 #[.slice A l.length c, .int .i64 x] W fun e W' => e = .returned (.bool true) ∧ Below W.heap.size W W' := by
  have := hasRP h x
  rwa [decide_eq_true hx] at this
theorem hasR_out (h : Play w0 W room g v ls A c l cp A8 c8 old) {x : Int} (hx : x ∉ l) : Calls Try.prog 21 #[.slice A l.length c, .int .i64 x] W fun e W' => e = .returned (.bool false) ∧ Below W.heap.size W W' := by
  have := hasRP h x
  rwa [decide_eq_false hx] at this
theorem join_in_calls (h : Play w0 W room g v l A c l cp A8 c8 old) {x : Int} (hx : x ∈ l) : Calls Try.prog 17 #[.slice A l.length c, .slice (some ⟨W.heap.size, 0, none⟩) 1 1] (W.alloc (.cells #[.int .i64 x] 3)) fun e W' => ∃ A' c', e = .returned (.slice A' l.length c') ∧ Play w0 W' room g v l A' c' l cp A8 c8 old := by
  have e := join_in h.set.rises hx
  have := joinRP h x (by rw [e]; exact h.short.1)
  rwa [e] at this
theorem join_new_calls {x : Int} (h : Play w0 W room g v (joinL l [x]) A c l cp A8 c8 old) : Calls Try.prog 17 #[.slice A l.length c, .slice (some ⟨W.heap.size, 0, none⟩) 1 1] (W.alloc (.cells #[.int .i64 x] 3)) fun e W' => ∃ A' c', e = .returned (.slice A' (joinL l [x]).length c') ∧ Play w0 W' room g v (joinL l [x]) A' c' (joinL l [x]) cp A8 c8 old :=
  joinRP h x (Nat.le_trans h.set.fits h.set.room1)
end
set_option maxHeartbeats 4000000 in
set_option maxRecDepth 100000 in
theorem plays_not (room : Int) (hr : ¬ (1 ≤ room ∧ room ≤ 64)) (A1 : Option Addr) (c1 n1 : Nat) (w : World) :
    Calls Try.prog 7 #[.int .i64 room, .slice A1 n1 c1] w fun e w' => e = .returned (.bool true) ∧ Below w.heap.size w w' := by
  have HN := Aside0.mk (new_not room hr w)
  by_cases h1 : 1 ≤ room
  · have d0 : decide (room ≥ 1) = true := decide_eq_true h1
    have d1 : decide (1 ≤ room) = true := decide_eq_true h1
    have d2 : decide (room ≤ 64) = false := decide_eq_false (by omega)
    clear hr
    go_enter Try.func7, Try.ntmps7
    go_wp2_with (first
      | (go_at_call 30; refine HN.out.mono ?_; rintro e w1 ⟨rfl, rfl⟩)
      | (go_at_call 13; refine (awake_calls w).mono ?_; rintro e w3 ⟨rfl, hb⟩; have HB := Aside0.mk hb; clear hb))
    go_ret
    exact ⟨rfl, HB.out⟩
  · have d0 : decide (room ≥ 1) = false := decide_eq_false h1
    have d1 : decide (1 ≤ room) = false := decide_eq_false h1
    clear hr
    go_enter Try.func7, Try.ntmps7
    go_wp2_with (first
      | (go_at_call 30; refine HN.out.mono ?_; rintro e w1 ⟨rfl, rfl⟩)
      | (go_at_call 13; refine (awake_calls w).mono ?_; rintro e w3 ⟨rfl, hb⟩; have HB := Aside0.mk hb; clear hb))
    go_ret
    exact ⟨rfl, HB.out⟩
theorem play_new (w : World) (r : Nat) (h0 : 0 < r) (h1 : r ≤ 64) : Play w (w.alloc (boxOf (r : Int) (.slice none 0 0))) r w.heap.size (.slice none 0 0) [] none 0 [] none none 0 [] :=
  ⟨below_alloc (Below.refl _ _) _, ⟨heap_alloc_new w _, own_nil _ _ _ _, List.Pairwise.nil, Nat.zero_le _, h0, h1⟩, Nat.le_refl _, (fun _ _ e => by cases e), RowIn.nil _ _, RowIn.nil _ _, by simp, by simp⟩
set_option maxHeartbeats 4000000 in
set_option maxRecDepth 100000 in
theorem plays_calls (r : Nat) (h0 : 0 < r) (h1 : r ≤ 64) (A1 : Option Addr) (c1 : Nat) (sc : List S41) (w : World) (hr1 : Kd.C k41 w A1 sc.length sc) (hc1 : sc.length ≤ c1) :
    Calls Try.prog 7 #[.int .i64 (r : Int), .slice A1 sc.length c1] w fun e w' => e = .returned (.bool true) ∧ Below w.heap.size w w' := by
  have HN := Aside0.mk (new_calls (r : Int) (by omega) (by omega) w)
  have HSc := Aside0.mk hr1
  have s63 : (sc.length : Int) ≤ 9223372036854775807 := by have := Kd.C_max hr1; omega
  have d0 : decide ((r : Int) ≥ 1) = true := decide_eq_true (by omega)
  have d1 : decide (1 ≤ (r : Int)) = true := decide_eq_true (by omega)
  have d2 : decide ((r : Int) ≤ 64) = true := decide_eq_true (by omega)
  have HI := Aside0.mk (play_new w r h0 h1)
  clear hr1 hc1 h0 h1
  go_enter Try.func7, Try.ntmps7
  go_wp2_with (go_at_call 30; refine HN.out.mono ?_; rintro e w1 ⟨rfl, hw⟩; rw [hw] at HI; clear HN; clear hw)
  go_loopw [7, 8, 9, 10] (fun t7 t8 t9 t10 wr => ∃ (k : Nat) (v : Value) (l : List Int) (A : Option Addr) (c : Nat) (cp : Option (Nat × Value)) (A8 : Option Addr) (c8 : Nat) (old : List Int), k ≤ sc.length ∧ t10 = .int .i64 (k : Int) ∧ t7 = .slice A l.length c ∧ t8 = .slice A8 old.length c8 ∧ t9 = .pointer (cptr cp) ∧ Aside0 (Play w wr r w.heap.size v l A c l cp A8 c8 old)) (fun _ _ _ i _ => sc.length - (intOf i).toNat)
  case atStart => exact ⟨0, _, [], none, 0, none, none, 0, [], Nat.zero_le _, rfl, rfl, rfl, rfl, HI⟩
  case round =>
    clear HI
    obtain ⟨k, v, l, A, c, cp, A8, c8, old, hk, rfl, rfl, rfl, rfl, HP⟩ := hrel
    by_cases hlt : k < sc.length
    · obtain ⟨b, o, rfl, hb, hcs⟩ := ops_at HSc.out (by omega)
      obtain ⟨q0, q1⟩ := hcs k hlt
      replace q0 := (HP.out.below.cell (p := ⟨b, o + k * 2, none⟩) hb).trans q0
      replace q1 := (HP.out.below.cell (p := ⟨b, o + k * 2 + 1, none⟩) hb).trans q1
      generalize (sc.getD k z41).f0 = kind at q0
      generalize (sc.getD k z41).f1 = x at q1
      clear hcs hb
      have i1 : ((k : Int) < (sc.length : Int)) := by omega
      rcases cp with _ | ⟨gc, vc⟩
      · simp only [cptr, Option.map_none] at *
        by_cases k1 : kind = 1
        · subst k1
          by_cases hx : x ∈ l
          · have HX := Aside0.mk hx
            clear hx
            go_wp2_with (first
    | (go_at_call 21; (with_reducible refine (hasR_in HP.out HX.out).mono ?_); rintro e w2 ⟨rfl, hb⟩; have nP := Aside0.mk (HP.out.step hb); clear HP hb; have HP := nP; clear nP)
    | (go_at_call 31; (with_reducible refine (add_in HP.out HX.out).mono ?_); rintro e w2 ⟨v2, rfl, hp⟩; clear HP; have HP := Aside0.mk hp; clear hp)
    | (go_at_call 17; (with_reducible refine (join_in_calls HP.out HX.out).mono ?_); rintro e w2 ⟨A2, c2, rfl, hp⟩; clear HP; have HP := Aside0.mk hp; clear hp)
    | (go_at_call 34; (with_reducible refine (listP HP.out).mono ?_); rintro e w3 ⟨Ag, cg, rfl, hR, hb⟩; have HL := HP; have HR := Aside0.mk hR; have HB := Aside0.mk hb; have nP := Aside0.mk (HP.out.step hb); clear HP hR hb HX; have HP := nP; clear nP)
    | (go_at_call 9; (with_reducible refine (sameP (Kd.R_reads' HR.out).2.2 (Kd.R_reads' HR.out).2.1 HP.out.row.C HP.out.row.cap HP.out.short.1).mono ?_); rintro e w4 ⟨rfl, hb⟩; have nP := Aside0.mk (HP.out.step hb); have nR := Aside0.mk (R_below HR.out hb); have nB := Aside0.mk (below_step HB.out hb); clear HP HR HB hb; have HP := nP; have HR := nR; have HB := nB; clear nP nR nB)
    | (go_at_call 35; (with_reducible refine (lenP HP.out).mono ?_); rintro e w4 ⟨rfl, rfl⟩)
    | (go_at_call 36; (with_reducible refine (hasP HP.out x).mono ?_); rintro e w4 ⟨rfl, rfl⟩)
    | (go_at_call 21; (with_reducible refine (hasRP HP.out x).mono ?_); rintro e w4 ⟨rfl, hb⟩; have nP := Aside0.mk (HP.out.step hb); have nR := Aside0.mk (R_below HR.out hb); have nB := Aside0.mk (below_step HB.out hb); clear HP HR HB hb; have HP := nP; have HR := nR; have HB := nB; clear nP nR nB)
    | (go_at_call 34; (with_reducible refine (listC HP.out).mono ?_); rintro e w5 ⟨Ah, ch, rfl, hR2, hb⟩; have HR2 := Aside0.mk hR2; clear hR2; have nP := Aside0.mk (HP.out.step hb); have nR := Aside0.mk (R_below HR.out hb); have nB := Aside0.mk (below_step HB.out hb); clear HP HR HB hb; have HP := nP; have HR := nR; have HB := nB; clear nP nR nB)
    | (go_at_call 9; (with_reducible refine (sameP (Kd.R_reads' HR2.out).2.2 (Kd.R_reads' HR2.out).2.1 HP.out.orow.C HP.out.orow.cap HP.out.short.2).mono ?_); rintro e w4 ⟨rfl, hb⟩; clear HR2; have nP := Aside0.mk (HP.out.step hb); have nR := Aside0.mk (R_below HR.out hb); have nB := Aside0.mk (below_step HB.out hb); clear HP HR HB hb; have HP := nP; have HR := nR; have HB := nB; clear nP nR nB)
    | (go_at_call 23; (with_reducible refine (spoilP HB.out HR.out HP.out.short.1).mono ?_); rintro e w6 ⟨rfl, hb⟩; clear HP; have HP := Aside0.mk (HL.out.step hb); clear HL HR HB hb))
            exact ⟨⟨k + 1, _, _, _, _, none, _, _, _, by omega, by go_num, rfl, rfl, rfl, HP⟩, by simp [intOf]; omega⟩
          · have HX := Aside0.mk hx
            clear hx
            by_cases hf : l.length = r
            · have HF := Aside0.mk hf
              have f1 : decide ((l.length : Int) = (r : Int)) = true := decide_eq_true (by omega)
              have f2 : ((l.length : Int) == (r : Int)) = true := by simp; omega
              clear hf
              go_wp2_with (first
    | (go_at_call 21; (with_reducible refine (hasR_out HP.out HX.out).mono ?_); rintro e w2 ⟨rfl, hb⟩; have nP := Aside0.mk (HP.out.step hb); clear HP hb; have HP := nP; clear nP)
    | (go_at_call 31; (with_reducible refine (add_full HP.out HX.out HF.out).mono ?_); rintro e w2 ⟨v2, rfl, hp⟩; clear HP; have HP := Aside0.mk hp; clear hp)
    | (go_at_call 34; (with_reducible refine (listP HP.out).mono ?_); rintro e w3 ⟨Ag, cg, rfl, hR, hb⟩; have HL := HP; have HR := Aside0.mk hR; have HB := Aside0.mk hb; have nP := Aside0.mk (HP.out.step hb); clear HP hR hb HX; have HP := nP; clear nP)
    | (go_at_call 9; (with_reducible refine (sameP (Kd.R_reads' HR.out).2.2 (Kd.R_reads' HR.out).2.1 HP.out.row.C HP.out.row.cap HP.out.short.1).mono ?_); rintro e w4 ⟨rfl, hb⟩; have nP := Aside0.mk (HP.out.step hb); have nR := Aside0.mk (R_below HR.out hb); have nB := Aside0.mk (below_step HB.out hb); clear HP HR HB hb; have HP := nP; have HR := nR; have HB := nB; clear nP nR nB)
    | (go_at_call 35; (with_reducible refine (lenP HP.out).mono ?_); rintro e w4 ⟨rfl, rfl⟩)
    | (go_at_call 36; (with_reducible refine (hasP HP.out x).mono ?_); rintro e w4 ⟨rfl, rfl⟩)
    | (go_at_call 21; (with_reducible refine (hasRP HP.out x).mono ?_); rintro e w4 ⟨rfl, hb⟩; have nP := Aside0.mk (HP.out.step hb); have nR := Aside0.mk (R_below HR.out hb); have nB := Aside0.mk (below_step HB.out hb); clear HP HR HB hb; have HP := nP; have HR := nR; have HB := nB; clear nP nR nB)
    | (go_at_call 34; (with_reducible refine (listC HP.out).mono ?_); rintro e w5 ⟨Ah, ch, rfl, hR2, hb⟩; have HR2 := Aside0.mk hR2; clear hR2; have nP := Aside0.mk (HP.out.step hb); have nR := Aside0.mk (R_below HR.out hb); have nB := Aside0.mk (below_step HB.out hb); clear HP HR HB hb; have HP := nP; have HR := nR; have HB := nB; clear nP nR nB)
    | (go_at_call 9; (with_reducible refine (sameP (Kd.R_reads' HR2.out).2.2 (Kd.R_reads' HR2.out).2.1 HP.out.orow.C HP.out.orow.cap HP.out.short.2).mono ?_); rintro e w4 ⟨rfl, hb⟩; clear HR2; have nP := Aside0.mk (HP.out.step hb); have nR := Aside0.mk (R_below HR.out hb); have nB := Aside0.mk (below_step HB.out hb); clear HP HR HB hb; have HP := nP; have HR := nR; have HB := nB; clear nP nR nB)
    | (go_at_call 23; (with_reducible refine (spoilP HB.out HR.out HP.out.short.1).mono ?_); rintro e w6 ⟨rfl, hb⟩; clear HP; have HP := Aside0.mk (HL.out.step hb); clear HL HR HB hb))
              exact ⟨⟨k + 1, _, _, _, _, none, _, _, _, by omega, by go_num, rfl, rfl, rfl, HP⟩, by simp [intOf]; omega⟩
            · have HF := Aside0.mk hf
              have f1 : decide ((l.length : Int) = (r : Int)) = false := decide_eq_false (by omega)
              have f2 : ((l.length : Int) == (r : Int)) = false := by simp; omega
              clear hf
              go_wp2_with (first
    | (go_at_call 21; (with_reducible refine (hasR_out HP.out HX.out).mono ?_); rintro e w2 ⟨rfl, hb⟩; have nP := Aside0.mk (HP.out.step hb); clear HP hb; have HP := nP; clear nP)
    | (go_at_call 31; (with_reducible refine (add_new HP.out HX.out HF.out).mono ?_); rintro e w2 ⟨v2, rfl, hp⟩; clear HP; have HP := Aside0.mk hp; clear hp)
    | (go_at_call 17; (with_reducible refine (join_new_calls HP.out).mono ?_); rintro e w2 ⟨A2, c2, rfl, hp⟩; clear HP; have HP := Aside0.mk hp; clear hp)
    | (go_at_call 34; (with_reducible refine (listP HP.out).mono ?_); rintro e w3 ⟨Ag, cg, rfl, hR, hb⟩; have HL := HP; have HR := Aside0.mk hR; have HB := Aside0.mk hb; have nP := Aside0.mk (HP.out.step hb); clear HP hR hb HX; have HP := nP; clear nP)
    | (go_at_call 9; (with_reducible refine (sameP (Kd.R_reads' HR.out).2.2 (Kd.R_reads' HR.out).2.1 HP.out.row.C HP.out.row.cap HP.out.short.1).mono ?_); rintro e w4 ⟨rfl, hb⟩; have nP := Aside0.mk (HP.out.step hb); have nR := Aside0.mk (R_below HR.out hb); have nB := Aside0.mk (below_step HB.out hb); clear HP HR HB hb; have HP := nP; have HR := nR; have HB := nB; clear nP nR nB)
    | (go_at_call 35; (with_reducible refine (lenP HP.out).mono ?_); rintro e w4 ⟨rfl, rfl⟩)
    | (go_at_call 36; (with_reducible refine (hasP HP.out x).mono ?_); rintro e w4 ⟨rfl, rfl⟩)
    | (go_at_call 21; (with_reducible refine (hasRP HP.out x).mono ?_); rintro e w4 ⟨rfl, hb⟩; have nP := Aside0.mk (HP.out.step hb); have nR := Aside0.mk (R_below HR.out hb); have nB := Aside0.mk (below_step HB.out hb); clear HP HR HB hb; have HP := nP; have HR := nR; have HB := nB; clear nP nR nB)
    | (go_at_call 34; (with_reducible refine (listC HP.out).mono ?_); rintro e w5 ⟨Ah, ch, rfl, hR2, hb⟩; have HR2 := Aside0.mk hR2; clear hR2; have nP := Aside0.mk (HP.out.step hb); have nR := Aside0.mk (R_below HR.out hb); have nB := Aside0.mk (below_step HB.out hb); clear HP HR HB hb; have HP := nP; have HR := nR; have HB := nB; clear nP nR nB)
    | (go_at_call 9; (with_reducible refine (sameP (Kd.R_reads' HR2.out).2.2 (Kd.R_reads' HR2.out).2.1 HP.out.orow.C HP.out.orow.cap HP.out.short.2).mono ?_); rintro e w4 ⟨rfl, hb⟩; clear HR2; have nP := Aside0.mk (HP.out.step hb); have nR := Aside0.mk (R_below HR.out hb); have nB := Aside0.mk (below_step HB.out hb); clear HP HR HB hb; have HP := nP; have HR := nR; have HB := nB; clear nP nR nB)
    | (go_at_call 23; (with_reducible refine (spoilP HB.out HR.out HP.out.short.1).mono ?_); rintro e w6 ⟨rfl, hb⟩; clear HP; have HP := Aside0.mk (HL.out.step hb); clear HL HR HB hb))
              exact ⟨⟨k + 1, _, _, _, _, none, _, _, _, by omega, by go_num, rfl, rfl, rfl, HP⟩, by simp [intOf]; omega⟩
        · have n1 : decide (kind = 1) = false := decide_eq_false k1
          have m1 : (kind == 1) = false := by simpa using k1
          by_cases k2 : kind = 2
          · subst k2
            clear k1 n1 m1
            by_cases hx : x ∈ l
            · have HX := Aside0.mk hx
              clear hx
              go_wp2_with (first
    | (go_at_call 21; (with_reducible refine (hasR_in HP.out HX.out).mono ?_); rintro e w2 ⟨rfl, hb⟩; have nP := Aside0.mk (HP.out.step hb); clear HP hb; have HP := nP; clear nP)
    | (go_at_call 32; (with_reducible refine (del_in HP.out HX.out).mono ?_); rintro e w2 ⟨v2, rfl, hp⟩; clear HP; have HP := Aside0.mk hp; clear hp)
    | (go_at_call 19; (with_reducible refine (lessRP HP.out x).mono ?_); rintro e w2 ⟨A2, c2, rfl, hp⟩; clear HP; have HP := Aside0.mk hp; clear hp)
    | (go_at_call 34; (with_reducible refine (listP HP.out).mono ?_); rintro e w3 ⟨Ag, cg, rfl, hR, hb⟩; have HL := HP; have HR := Aside0.mk hR; have HB := Aside0.mk hb; have nP := Aside0.mk (HP.out.step hb); clear HP hR hb HX; have HP := nP; clear nP)
    | (go_at_call 9; (with_reducible refine (sameP (Kd.R_reads' HR.out).2.2 (Kd.R_reads' HR.out).2.1 HP.out.row.C HP.out.row.cap HP.out.short.1).mono ?_); rintro e w4 ⟨rfl, hb⟩; have nP := Aside0.mk (HP.out.step hb); have nR := Aside0.mk (R_below HR.out hb); have nB := Aside0.mk (below_step HB.out hb); clear HP HR HB hb; have HP := nP; have HR := nR; have HB := nB; clear nP nR nB)
    | (go_at_call 35; (with_reducible refine (lenP HP.out).mono ?_); rintro e w4 ⟨rfl, rfl⟩)
    | (go_at_call 36; (with_reducible refine (hasP HP.out x).mono ?_); rintro e w4 ⟨rfl, rfl⟩)
    | (go_at_call 21; (with_reducible refine (hasRP HP.out x).mono ?_); rintro e w4 ⟨rfl, hb⟩; have nP := Aside0.mk (HP.out.step hb); have nR := Aside0.mk (R_below HR.out hb); have nB := Aside0.mk (below_step HB.out hb); clear HP HR HB hb; have HP := nP; have HR := nR; have HB := nB; clear nP nR nB)
    | (go_at_call 34; (with_reducible refine (listC HP.out).mono ?_); rintro e w5 ⟨Ah, ch, rfl, hR2, hb⟩; have HR2 := Aside0.mk hR2; clear hR2; have nP := Aside0.mk (HP.out.step hb); have nR := Aside0.mk (R_below HR.out hb); have nB := Aside0.mk (below_step HB.out hb); clear HP HR HB hb; have HP := nP; have HR := nR; have HB := nB; clear nP nR nB)
    | (go_at_call 9; (with_reducible refine (sameP (Kd.R_reads' HR2.out).2.2 (Kd.R_reads' HR2.out).2.1 HP.out.orow.C HP.out.orow.cap HP.out.short.2).mono ?_); rintro e w4 ⟨rfl, hb⟩; clear HR2; have nP := Aside0.mk (HP.out.step hb); have nR := Aside0.mk (R_below HR.out hb); have nB := Aside0.mk (below_step HB.out hb); clear HP HR HB hb; have HP := nP; have HR := nR; have HB := nB; clear nP nR nB)
    | (go_at_call 23; (with_reducible refine (spoilP HB.out HR.out HP.out.short.1).mono ?_); rintro e w6 ⟨rfl, hb⟩; clear HP; have HP := Aside0.mk (HL.out.step hb); clear HL HR HB hb))
              exact ⟨⟨k + 1, _, _, _, _, none, _, _, _, by omega, by go_num, rfl, rfl, rfl, HP⟩, by simp [intOf]; omega⟩
            · have HX := Aside0.mk hx
              clear hx
              go_wp2_with (first
    | (go_at_call 21; (with_reducible refine (hasR_out HP.out HX.out).mono ?_); rintro e w2 ⟨rfl, hb⟩; have nP := Aside0.mk (HP.out.step hb); clear HP hb; have HP := nP; clear nP)
    | (go_at_call 32; (with_reducible refine (del_out HP.out HX.out).mono ?_); rintro e w2 ⟨v2, rfl, hp⟩; clear HP; have HP := Aside0.mk hp; clear hp)
    | (go_at_call 19; (with_reducible refine (lessRP HP.out x).mono ?_); rintro e w2 ⟨A2, c2, rfl, hp⟩; clear HP; have HP := Aside0.mk hp; clear hp)
    | (go_at_call 34; (with_reducible refine (listP HP.out).mono ?_); rintro e w3 ⟨Ag, cg, rfl, hR, hb⟩; have HL := HP; have HR := Aside0.mk hR; have HB := Aside0.mk hb; have nP := Aside0.mk (HP.out.step hb); clear HP hR hb HX; have HP := nP; clear nP)
    | (go_at_call 9; (with_reducible refine (sameP (Kd.R_reads' HR.out).2.2 (Kd.R_reads' HR.out).2.1 HP.out.row.C HP.out.row.cap HP.out.short.1).mono ?_); rintro e w4 ⟨rfl, hb⟩; have nP := Aside0.mk (HP.out.step hb); have nR := Aside0.mk (R_below HR.out hb); have nB := Aside0.mk (below_step HB.out hb); clear HP HR HB hb; have HP := nP; have HR := nR; have HB := nB; clear nP nR nB)
    | (go_at_call 35; (with_reducible refine (lenP HP.out).mono ?_); rintro e w4 ⟨rfl, rfl⟩)
    | (go_at_call 36; (with_reducible refine (hasP HP.out x).mono ?_); rintro e w4 ⟨rfl, rfl⟩)
    | (go_at_call 21; (with_reducible refine (hasRP HP.out x).mono ?_); rintro e w4 ⟨rfl, hb⟩; have nP := Aside0.mk (HP.out.step hb); have nR := Aside0.mk (R_below HR.out hb); have nB := Aside0.mk (below_step HB.out hb); clear HP HR HB hb; have HP := nP; have HR := nR; have HB := nB; clear nP nR nB)
    | (go_at_call 34; (with_reducible refine (listC HP.out).mono ?_); rintro e w5 ⟨Ah, ch, rfl, hR2, hb⟩; have HR2 := Aside0.mk hR2; clear hR2; have nP := Aside0.mk (HP.out.step hb); have nR := Aside0.mk (R_below HR.out hb); have nB := Aside0.mk (below_step HB.out hb); clear HP HR HB hb; have HP := nP; have HR := nR; have HB := nB; clear nP nR nB)
    | (go_at_call 9; (with_reducible refine (sameP (Kd.R_reads' HR2.out).2.2 (Kd.R_reads' HR2.out).2.1 HP.out.orow.C HP.out.orow.cap HP.out.short.2).mono ?_); rintro e w4 ⟨rfl, hb⟩; clear HR2; have nP := Aside0.mk (HP.out.step hb); have nR := Aside0.mk (R_below HR.out hb); have nB := Aside0.mk (below_step HB.out hb); clear HP HR HB hb; have HP := nP; have HR := nR; have HB := nB; clear nP nR nB)
    | (go_at_call 23; (with_reducible refine (spoilP HB.out HR.out HP.out.short.1).mono ?_); rintro e w6 ⟨rfl, hb⟩; clear HP; have HP := Aside0.mk (HL.out.step hb); clear HL HR HB hb))
              exact ⟨⟨k + 1, _, _, _, _, none, _, _, _, by omega, by go_num, rfl, rfl, rfl, HP⟩, by simp [intOf]; omega⟩
          · have n2 : decide (kind = 2) = false := decide_eq_false k2
            have m2 : (kind == 2) = false := by simpa using k2
            have HX := Aside0.mk trivial
            by_cases k4 : kind = 4
            · subst k4
              clear k1 n1 m1 k2 n2 m2
              go_wp2_with (first
    | (go_at_call 33; (with_reducible refine (copyP HP.out).mono ?_); rintro e w2 ⟨gd, vd, rfl, hp⟩; clear HP; have HP := Aside0.mk hp; clear hp)
    | (go_at_call 34; (with_reducible refine (listP HP.out).mono ?_); rintro e w3 ⟨Ag, cg, rfl, hR, hb⟩; have HL := HP; have HR := Aside0.mk hR; have HB := Aside0.mk hb; have nP := Aside0.mk (HP.out.step hb); clear HP hR hb HX; have HP := nP; clear nP)
    | (go_at_call 9; (with_reducible refine (sameP (Kd.R_reads' HR.out).2.2 (Kd.R_reads' HR.out).2.1 HP.out.row.C HP.out.row.cap HP.out.short.1).mono ?_); rintro e w4 ⟨rfl, hb⟩; have nP := Aside0.mk (HP.out.step hb); have nR := Aside0.mk (R_below HR.out hb); have nB := Aside0.mk (below_step HB.out hb); clear HP HR HB hb; have HP := nP; have HR := nR; have HB := nB; clear nP nR nB)
    | (go_at_call 35; (with_reducible refine (lenP HP.out).mono ?_); rintro e w4 ⟨rfl, rfl⟩)
    | (go_at_call 36; (with_reducible refine (hasP HP.out x).mono ?_); rintro e w4 ⟨rfl, rfl⟩)
    | (go_at_call 21; (with_reducible refine (hasRP HP.out x).mono ?_); rintro e w4 ⟨rfl, hb⟩; have nP := Aside0.mk (HP.out.step hb); have nR := Aside0.mk (R_below HR.out hb); have nB := Aside0.mk (below_step HB.out hb); clear HP HR HB hb; have HP := nP; have HR := nR; have HB := nB; clear nP nR nB)
    | (go_at_call 34; (with_reducible refine (listC HP.out).mono ?_); rintro e w5 ⟨Ah, ch, rfl, hR2, hb⟩; have HR2 := Aside0.mk hR2; clear hR2; have nP := Aside0.mk (HP.out.step hb); have nR := Aside0.mk (R_below HR.out hb); have nB := Aside0.mk (below_step HB.out hb); clear HP HR HB hb; have HP := nP; have HR := nR; have HB := nB; clear nP nR nB)
    | (go_at_call 9; (with_reducible refine (sameP (Kd.R_reads' HR2.out).2.2 (Kd.R_reads' HR2.out).2.1 HP.out.orow.C HP.out.orow.cap HP.out.short.2).mono ?_); rintro e w4 ⟨rfl, hb⟩; clear HR2; have nP := Aside0.mk (HP.out.step hb); have nR := Aside0.mk (R_below HR.out hb); have nB := Aside0.mk (below_step HB.out hb); clear HP HR HB hb; have HP := nP; have HR := nR; have HB := nB; clear nP nR nB)
    | (go_at_call 23; (with_reducible refine (spoilP HB.out HR.out HP.out.short.1).mono ?_); rintro e w6 ⟨rfl, hb⟩; clear HP; have HP := Aside0.mk (HL.out.step hb); clear HL HR HB hb))
              exact ⟨⟨k + 1, _, _, _, _, some (gd, vd), _, _, _, by omega, by go_num, rfl, rfl, rfl, HP⟩, by simp [intOf]; omega⟩
            · have n4 : decide (kind = 4) = false := decide_eq_false k4
              have m4 : (kind == 4) = false := by simpa using k4
              clear k1 k2 k4
              go_wp2_with (first
    | (go_at_call 34; (with_reducible refine (listP HP.out).mono ?_); rintro e w3 ⟨Ag, cg, rfl, hR, hb⟩; have HL := HP; have HR := Aside0.mk hR; have HB := Aside0.mk hb; have nP := Aside0.mk (HP.out.step hb); clear HP hR hb HX; have HP := nP; clear nP)
    | (go_at_call 9; (with_reducible refine (sameP (Kd.R_reads' HR.out).2.2 (Kd.R_reads' HR.out).2.1 HP.out.row.C HP.out.row.cap HP.out.short.1).mono ?_); rintro e w4 ⟨rfl, hb⟩; have nP := Aside0.mk (HP.out.step hb); have nR := Aside0.mk (R_below HR.out hb); have nB := Aside0.mk (below_step HB.out hb); clear HP HR HB hb; have HP := nP; have HR := nR; have HB := nB; clear nP nR nB)
    | (go_at_call 35; (with_reducible refine (lenP HP.out).mono ?_); rintro e w4 ⟨rfl, rfl⟩)
    | (go_at_call 36; (with_reducible refine (hasP HP.out x).mono ?_); rintro e w4 ⟨rfl, rfl⟩)
    | (go_at_call 21; (with_reducible refine (hasRP HP.out x).mono ?_); rintro e w4 ⟨rfl, hb⟩; have nP := Aside0.mk (HP.out.step hb); have nR := Aside0.mk (R_below HR.out hb); have nB := Aside0.mk (below_step HB.out hb); clear HP HR HB hb; have HP := nP; have HR := nR; have HB := nB; clear nP nR nB)
    | (go_at_call 34; (with_reducible refine (listC HP.out).mono ?_); rintro e w5 ⟨Ah, ch, rfl, hR2, hb⟩; have HR2 := Aside0.mk hR2; clear hR2; have nP := Aside0.mk (HP.out.step hb); have nR := Aside0.mk (R_below HR.out hb); have nB := Aside0.mk (below_step HB.out hb); clear HP HR HB hb; have HP := nP; have HR := nR; have HB := nB; clear nP nR nB)
    | (go_at_call 9; (with_reducible refine (sameP (Kd.R_reads' HR2.out).2.2 (Kd.R_reads' HR2.out).2.1 HP.out.orow.C HP.out.orow.cap HP.out.short.2).mono ?_); rintro e w4 ⟨rfl, hb⟩; clear HR2; have nP := Aside0.mk (HP.out.step hb); have nR := Aside0.mk (R_below HR.out hb); have nB := Aside0.mk (below_step HB.out hb); clear HP HR HB hb; have HP := nP; have HR := nR; have HB := nB; clear nP nR nB)
    | (go_at_call 23; (with_reducible refine (spoilP HB.out HR.out HP.out.short.1).mono ?_); rintro e w6 ⟨rfl, hb⟩; clear HP; have HP := Aside0.mk (HL.out.step hb); clear HL HR HB hb))
              exact ⟨⟨k + 1, _, _, _, _, none, _, _, _, by omega, by go_num, rfl, rfl, rfl, HP⟩, by simp [intOf]; omega⟩
      · simp only [cptr, Option.map_some] at *
        by_cases k1 : kind = 1
        · subst k1
          by_cases hx : x ∈ l
          · have HX := Aside0.mk hx
            clear hx
            go_wp2_with (first
    | (go_at_call 21; (with_reducible refine (hasR_in HP.out HX.out).mono ?_); rintro e w2 ⟨rfl, hb⟩; have nP := Aside0.mk (HP.out.step hb); clear HP hb; have HP := nP; clear nP)
    | (go_at_call 31; (with_reducible refine (add_in HP.out HX.out).mono ?_); rintro e w2 ⟨v2, rfl, hp⟩; clear HP; have HP := Aside0.mk hp; clear hp)
    | (go_at_call 17; (with_reducible refine (join_in_calls HP.out HX.out).mono ?_); rintro e w2 ⟨A2, c2, rfl, hp⟩; clear HP; have HP := Aside0.mk hp; clear hp)
    | (go_at_call 34; (with_reducible refine (listP HP.out).mono ?_); rintro e w3 ⟨Ag, cg, rfl, hR, hb⟩; have HL := HP; have HR := Aside0.mk hR; have HB := Aside0.mk hb; have nP := Aside0.mk (HP.out.step hb); clear HP hR hb HX; have HP := nP; clear nP)
    | (go_at_call 9; (with_reducible refine (sameP (Kd.R_reads' HR.out).2.2 (Kd.R_reads' HR.out).2.1 HP.out.row.C HP.out.row.cap HP.out.short.1).mono ?_); rintro e w4 ⟨rfl, hb⟩; have nP := Aside0.mk (HP.out.step hb); have nR := Aside0.mk (R_below HR.out hb); have nB := Aside0.mk (below_step HB.out hb); clear HP HR HB hb; have HP := nP; have HR := nR; have HB := nB; clear nP nR nB)
    | (go_at_call 35; (with_reducible refine (lenP HP.out).mono ?_); rintro e w4 ⟨rfl, rfl⟩)
    | (go_at_call 36; (with_reducible refine (hasP HP.out x).mono ?_); rintro e w4 ⟨rfl, rfl⟩)
    | (go_at_call 21; (with_reducible refine (hasRP HP.out x).mono ?_); rintro e w4 ⟨rfl, hb⟩; have nP := Aside0.mk (HP.out.step hb); have nR := Aside0.mk (R_below HR.out hb); have nB := Aside0.mk (below_step HB.out hb); clear HP HR HB hb; have HP := nP; have HR := nR; have HB := nB; clear nP nR nB)
    | (go_at_call 34; (with_reducible refine (listC HP.out).mono ?_); rintro e w5 ⟨Ah, ch, rfl, hR2, hb⟩; have HR2 := Aside0.mk hR2; clear hR2; have nP := Aside0.mk (HP.out.step hb); have nR := Aside0.mk (R_below HR.out hb); have nB := Aside0.mk (below_step HB.out hb); clear HP HR HB hb; have HP := nP; have HR := nR; have HB := nB; clear nP nR nB)
    | (go_at_call 9; (with_reducible refine (sameP (Kd.R_reads' HR2.out).2.2 (Kd.R_reads' HR2.out).2.1 HP.out.orow.C HP.out.orow.cap HP.out.short.2).mono ?_); rintro e w4 ⟨rfl, hb⟩; clear HR2; have nP := Aside0.mk (HP.out.step hb); have nR := Aside0.mk (R_below HR.out hb); have nB := Aside0.mk (below_step HB.out hb); clear HP HR HB hb; have HP := nP; have HR := nR; have HB := nB; clear nP nR nB)
    | (go_at_call 23; (with_reducible refine (spoilP HB.out HR.out HP.out.short.1).mono ?_); rintro e w6 ⟨rfl, hb⟩; clear HP; have HP := Aside0.mk (HL.out.step hb); clear HL HR HB hb))
            exact ⟨⟨k + 1, _, _, _, _, some (gc, vc), _, _, _, by omega, by go_num, rfl, rfl, rfl, HP⟩, by simp [intOf]; omega⟩
          · have HX := Aside0.mk hx
            clear hx
            by_cases hf : l.length = r
            · have HF := Aside0.mk hf
              have f1 : decide ((l.length : Int) = (r : Int)) = true := decide_eq_true (by omega)
              have f2 : ((l.length : Int) == (r : Int)) = true := by simp; omega
              clear hf
              go_wp2_with (first
    | (go_at_call 21; (with_reducible refine (hasR_out HP.out HX.out).mono ?_); rintro e w2 ⟨rfl, hb⟩; have nP := Aside0.mk (HP.out.step hb); clear HP hb; have HP := nP; clear nP)
    | (go_at_call 31; (with_reducible refine (add_full HP.out HX.out HF.out).mono ?_); rintro e w2 ⟨v2, rfl, hp⟩; clear HP; have HP := Aside0.mk hp; clear hp)
    | (go_at_call 34; (with_reducible refine (listP HP.out).mono ?_); rintro e w3 ⟨Ag, cg, rfl, hR, hb⟩; have HL := HP; have HR := Aside0.mk hR; have HB := Aside0.mk hb; have nP := Aside0.mk (HP.out.step hb); clear HP hR hb HX; have HP := nP; clear nP)
    | (go_at_call 9; (with_reducible refine (sameP (Kd.R_reads' HR.out).2.2 (Kd.R_reads' HR.out).2.1 HP.out.row.C HP.out.row.cap HP.out.short.1).mono ?_); rintro e w4 ⟨rfl, hb⟩; have nP := Aside0.mk (HP.out.step hb); have nR := Aside0.mk (R_below HR.out hb); have nB := Aside0.mk (below_step HB.out hb); clear HP HR HB hb; have HP := nP; have HR := nR; have HB := nB; clear nP nR nB)
    | (go_at_call 35; (with_reducible refine (lenP HP.out).mono ?_); rintro e w4 ⟨rfl, rfl⟩)
    | (go_at_call 36; (with_reducible refine (hasP HP.out x).mono ?_); rintro e w4 ⟨rfl, rfl⟩)
    | (go_at_call 21; (with_reducible refine (hasRP HP.out x).mono ?_); rintro e w4 ⟨rfl, hb⟩; have nP := Aside0.mk (HP.out.step hb); have nR := Aside0.mk (R_below HR.out hb); have nB := Aside0.mk (below_step HB.out hb); clear HP HR HB hb; have HP := nP; have HR := nR; have HB := nB; clear nP nR nB)
    | (go_at_call 34; (with_reducible refine (listC HP.out).mono ?_); rintro e w5 ⟨Ah, ch, rfl, hR2, hb⟩; have HR2 := Aside0.mk hR2; clear hR2; have nP := Aside0.mk (HP.out.step hb); have nR := Aside0.mk (R_below HR.out hb); have nB := Aside0.mk (below_step HB.out hb); clear HP HR HB hb; have HP := nP; have HR := nR; have HB := nB; clear nP nR nB)
    | (go_at_call 9; (with_reducible refine (sameP (Kd.R_reads' HR2.out).2.2 (Kd.R_reads' HR2.out).2.1 HP.out.orow.C HP.out.orow.cap HP.out.short.2).mono ?_); rintro e w4 ⟨rfl, hb⟩; clear HR2; have nP := Aside0.mk (HP.out.step hb); have nR := Aside0.mk (R_below HR.out hb); have nB := Aside0.mk (below_step HB.out hb); clear HP HR HB hb; have HP := nP; have HR := nR; have HB := nB; clear nP nR nB)
    | (go_at_call 23; (with_reducible refine (spoilP HB.out HR.out HP.out.short.1).mono ?_); rintro e w6 ⟨rfl, hb⟩; clear HP; have HP := Aside0.mk (HL.out.step hb); clear HL HR HB hb))
              exact ⟨⟨k + 1, _, _, _, _, some (gc, vc), _, _, _, by omega, by go_num, rfl, rfl, rfl, HP⟩, by simp [intOf]; omega⟩
            · have HF := Aside0.mk hf
              have f1 : decide ((l.length : Int) = (r : Int)) = false := decide_eq_false (by omega)
              have f2 : ((l.length : Int) == (r : Int)) = false := by simp; omega
              clear hf
              go_wp2_with (first
    | (go_at_call 21; (with_reducible refine (hasR_out HP.out HX.out).mono ?_); rintro e w2 ⟨rfl, hb⟩; have nP := Aside0.mk (HP.out.step hb); clear HP hb; have HP := nP; clear nP)
    | (go_at_call 31; (with_reducible refine (add_new HP.out HX.out HF.out).mono ?_); rintro e w2 ⟨v2, rfl, hp⟩; clear HP; have HP := Aside0.mk hp; clear hp)
    | (go_at_call 17; (with_reducible refine (join_new_calls HP.out).mono ?_); rintro e w2 ⟨A2, c2, rfl, hp⟩; clear HP; have HP := Aside0.mk hp; clear hp)
    | (go_at_call 34; (with_reducible refine (listP HP.out).mono ?_); rintro e w3 ⟨Ag, cg, rfl, hR, hb⟩; have HL := HP; have HR := Aside0.mk hR; have HB := Aside0.mk hb; have nP := Aside0.mk (HP.out.step hb); clear HP hR hb HX; have HP := nP; clear nP)
    | (go_at_call 9; (with_reducible refine (sameP (Kd.R_reads' HR.out).2.2 (Kd.R_reads' HR.out).2.1 HP.out.row.C HP.out.row.cap HP.out.short.1).mono ?_); rintro e w4 ⟨rfl, hb⟩; have nP := Aside0.mk (HP.out.step hb); have nR := Aside0.mk (R_below HR.out hb); have nB := Aside0.mk (below_step HB.out hb); clear HP HR HB hb; have HP := nP; have HR := nR; have HB := nB; clear nP nR nB)
    | (go_at_call 35; (with_reducible refine (lenP HP.out).mono ?_); rintro e w4 ⟨rfl, rfl⟩)
    | (go_at_call 36; (with_reducible refine (hasP HP.out x).mono ?_); rintro e w4 ⟨rfl, rfl⟩)
    | (go_at_call 21; (with_reducible refine (hasRP HP.out x).mono ?_); rintro e w4 ⟨rfl, hb⟩; have nP := Aside0.mk (HP.out.step hb); have nR := Aside0.mk (R_below HR.out hb); have nB := Aside0.mk (below_step HB.out hb); clear HP HR HB hb; have HP := nP; have HR := nR; have HB := nB; clear nP nR nB)
    | (go_at_call 34; (with_reducible refine (listC HP.out).mono ?_); rintro e w5 ⟨Ah, ch, rfl, hR2, hb⟩; have HR2 := Aside0.mk hR2; clear hR2; have nP := Aside0.mk (HP.out.step hb); have nR := Aside0.mk (R_below HR.out hb); have nB := Aside0.mk (below_step HB.out hb); clear HP HR HB hb; have HP := nP; have HR := nR; have HB := nB; clear nP nR nB)
    | (go_at_call 9; (with_reducible refine (sameP (Kd.R_reads' HR2.out).2.2 (Kd.R_reads' HR2.out).2.1 HP.out.orow.C HP.out.orow.cap HP.out.short.2).mono ?_); rintro e w4 ⟨rfl, hb⟩; clear HR2; have nP := Aside0.mk (HP.out.step hb); have nR := Aside0.mk (R_below HR.out hb); have nB := Aside0.mk (below_step HB.out hb); clear HP HR HB hb; have HP := nP; have HR := nR; have HB := nB; clear nP nR nB)
    | (go_at_call 23; (with_reducible refine (spoilP HB.out HR.out HP.out.short.1).mono ?_); rintro e w6 ⟨rfl, hb⟩; clear HP; have HP := Aside0.mk (HL.out.step hb); clear HL HR HB hb))
              exact ⟨⟨k + 1, _, _, _, _, some (gc, vc), _, _, _, by omega, by go_num, rfl, rfl, rfl, HP⟩, by simp [intOf]; omega⟩
        · have n1 : decide (kind = 1) = false := decide_eq_false k1
          have m1 : (kind == 1) = false := by simpa using k1
          by_cases k2 : kind = 2
          · subst k2
            clear k1 n1 m1
            by_cases hx : x ∈ l
            · have HX := Aside0.mk hx
              clear hx
              go_wp2_with (first
    | (go_at_call 21; (with_reducible refine (hasR_in HP.out HX.out).mono ?_); rintro e w2 ⟨rfl, hb⟩; have nP := Aside0.mk (HP.out.step hb); clear HP hb; have HP := nP; clear nP)
    | (go_at_call 32; (with_reducible refine (del_in HP.out HX.out).mono ?_); rintro e w2 ⟨v2, rfl, hp⟩; clear HP; have HP := Aside0.mk hp; clear hp)
    | (go_at_call 19; (with_reducible refine (lessRP HP.out x).mono ?_); rintro e w2 ⟨A2, c2, rfl, hp⟩; clear HP; have HP := Aside0.mk hp; clear hp)
    | (go_at_call 34; (with_reducible refine (listP HP.out).mono ?_); rintro e w3 ⟨Ag, cg, rfl, hR, hb⟩; have HL := HP; have HR := Aside0.mk hR; have HB := Aside0.mk hb; have nP := Aside0.mk (HP.out.step hb); clear HP hR hb HX; have HP := nP; clear nP)
    | (go_at_call 9; (with_reducible refine (sameP (Kd.R_reads' HR.out).2.2 (Kd.R_reads' HR.out).2.1 HP.out.row.C HP.out.row.cap HP.out.short.1).mono ?_); rintro e w4 ⟨rfl, hb⟩; have nP := Aside0.mk (HP.out.step hb); have nR := Aside0.mk (R_below HR.out hb); have nB := Aside0.mk (below_step HB.out hb); clear HP HR HB hb; have HP := nP; have HR := nR; have HB := nB; clear nP nR nB)
    | (go_at_call 35; (with_reducible refine (lenP HP.out).mono ?_); rintro e w4 ⟨rfl, rfl⟩)
    | (go_at_call 36; (with_reducible refine (hasP HP.out x).mono ?_); rintro e w4 ⟨rfl, rfl⟩)
    | (go_at_call 21; (with_reducible refine (hasRP HP.out x).mono ?_); rintro e w4 ⟨rfl, hb⟩; have nP := Aside0.mk (HP.out.step hb); have nR := Aside0.mk (R_below HR.out hb); have nB := Aside0.mk (below_step HB.out hb); clear HP HR HB hb; have HP := nP; have HR := nR; have HB := nB; clear nP nR nB)
    | (go_at_call 34; (with_reducible refine (listC HP.out).mono ?_); rintro e w5 ⟨Ah, ch, rfl, hR2, hb⟩; have HR2 := Aside0.mk hR2; clear hR2; have nP := Aside0.mk (HP.out.step hb); have nR := Aside0.mk (R_below HR.out hb); have nB := Aside0.mk (below_step HB.out hb); clear HP HR HB hb; have HP := nP; have HR := nR; have HB := nB; clear nP nR nB)
    | (go_at_call 9; (with_reducible refine (sameP (Kd.R_reads' HR2.out).2.2 (Kd.R_reads' HR2.out).2.1 HP.out.orow.C HP.out.orow.cap HP.out.short.2).mono ?_); rintro e w4 ⟨rfl, hb⟩; clear HR2; have nP := Aside0.mk (HP.out.step hb); have nR := Aside0.mk (R_below HR.out hb); have nB := Aside0.mk (below_step HB.out hb); clear HP HR HB hb; have HP := nP; have HR := nR; have HB := nB; clear nP nR nB)
    | (go_at_call 23; (with_reducible refine (spoilP HB.out HR.out HP.out.short.1).mono ?_); rintro e w6 ⟨rfl, hb⟩; clear HP; have HP := Aside0.mk (HL.out.step hb); clear HL HR HB hb))
              exact ⟨⟨k + 1, _, _, _, _, some (gc, vc), _, _, _, by omega, by go_num, rfl, rfl, rfl, HP⟩, by simp [intOf]; omega⟩
            · have HX := Aside0.mk hx
              clear hx
              go_wp2_with (first
    | (go_at_call 21; (with_reducible refine (hasR_out HP.out HX.out).mono ?_); rintro e w2 ⟨rfl, hb⟩; have nP := Aside0.mk (HP.out.step hb); clear HP hb; have HP := nP; clear nP)
    | (go_at_call 32; (with_reducible refine (del_out HP.out HX.out).mono ?_); rintro e w2 ⟨v2, rfl, hp⟩; clear HP; have HP := Aside0.mk hp; clear hp)
    | (go_at_call 19; (with_reducible refine (lessRP HP.out x).mono ?_); rintro e w2 ⟨A2, c2, rfl, hp⟩; clear HP; have HP := Aside0.mk hp; clear hp)
    | (go_at_call 34; (with_reducible refine (listP HP.out).mono ?_); rintro e w3 ⟨Ag, cg, rfl, hR, hb⟩; have HL := HP; have HR := Aside0.mk hR; have HB := Aside0.mk hb; have nP := Aside0.mk (HP.out.step hb); clear HP hR hb HX; have HP := nP; clear nP)
    | (go_at_call 9; (with_reducible refine (sameP (Kd.R_reads' HR.out).2.2 (Kd.R_reads' HR.out).2.1 HP.out.row.C HP.out.row.cap HP.out.short.1).mono ?_); rintro e w4 ⟨rfl, hb⟩; have nP := Aside0.mk (HP.out.step hb); have nR := Aside0.mk (R_below HR.out hb); have nB := Aside0.mk (below_step HB.out hb); clear HP HR HB hb; have HP := nP; have HR := nR; have HB := nB; clear nP nR nB)
    | (go_at_call 35; (with_reducible refine (lenP HP.out).mono ?_); rintro e w4 ⟨rfl, rfl⟩)
    | (go_at_call 36; (with_reducible refine (hasP HP.out x).mono ?_); rintro e w4 ⟨rfl, rfl⟩)
    | (go_at_call 21; (with_reducible refine (hasRP HP.out x).mono ?_); rintro e w4 ⟨rfl, hb⟩; have nP := Aside0.mk (HP.out.step hb); have nR := Aside0.mk (R_below HR.out hb); have nB := Aside0.mk (below_step HB.out hb); clear HP HR HB hb; have HP := nP; have HR := nR; have HB := nB; clear nP nR nB)
    | (go_at_call 34; (with_reducible refine (listC HP.out).mono ?_); rintro e w5 ⟨Ah, ch, rfl, hR2, hb⟩; have HR2 := Aside0.mk hR2; clear hR2; have nP := Aside0.mk (HP.out.step hb); have nR := Aside0.mk (R_below HR.out hb); have nB := Aside0.mk (below_step HB.out hb); clear HP HR HB hb; have HP := nP; have HR := nR; have HB := nB; clear nP nR nB)
    | (go_at_call 9; (with_reducible refine (sameP (Kd.R_reads' HR2.out).2.2 (Kd.R_reads' HR2.out).2.1 HP.out.orow.C HP.out.orow.cap HP.out.short.2).mono ?_); rintro e w4 ⟨rfl, hb⟩; clear HR2; have nP := Aside0.mk (HP.out.step hb); have nR := Aside0.mk (R_below HR.out hb); have nB := Aside0.mk (below_step HB.out hb); clear HP HR HB hb; have HP := nP; have HR := nR; have HB := nB; clear nP nR nB)
    | (go_at_call 23; (with_reducible refine (spoilP HB.out HR.out HP.out.short.1).mono ?_); rintro e w6 ⟨rfl, hb⟩; clear HP; have HP := Aside0.mk (HL.out.step hb); clear HL HR HB hb))
              exact ⟨⟨k + 1, _, _, _, _, some (gc, vc), _, _, _, by omega, by go_num, rfl, rfl, rfl, HP⟩, by simp [intOf]; omega⟩
          · have n2 : decide (kind = 2) = false := decide_eq_false k2
            have m2 : (kind == 2) = false := by simpa using k2
            have HX := Aside0.mk trivial
            by_cases k4 : kind = 4
            · subst k4
              clear k1 n1 m1 k2 n2 m2
              go_wp2_with (first
    | (go_at_call 33; (with_reducible refine (copyP HP.out).mono ?_); rintro e w2 ⟨gd, vd, rfl, hp⟩; clear HP; have HP := Aside0.mk hp; clear hp)
    | (go_at_call 34; (with_reducible refine (listP HP.out).mono ?_); rintro e w3 ⟨Ag, cg, rfl, hR, hb⟩; have HL := HP; have HR := Aside0.mk hR; have HB := Aside0.mk hb; have nP := Aside0.mk (HP.out.step hb); clear HP hR hb HX; have HP := nP; clear nP)
    | (go_at_call 9; (with_reducible refine (sameP (Kd.R_reads' HR.out).2.2 (Kd.R_reads' HR.out).2.1 HP.out.row.C HP.out.row.cap HP.out.short.1).mono ?_); rintro e w4 ⟨rfl, hb⟩; have nP := Aside0.mk (HP.out.step hb); have nR := Aside0.mk (R_below HR.out hb); have nB := Aside0.mk (below_step HB.out hb); clear HP HR HB hb; have HP := nP; have HR := nR; have HB := nB; clear nP nR nB)
    | (go_at_call 35; (with_reducible refine (lenP HP.out).mono ?_); rintro e w4 ⟨rfl, rfl⟩)
    | (go_at_call 36; (with_reducible refine (hasP HP.out x).mono ?_); rintro e w4 ⟨rfl, rfl⟩)
    | (go_at_call 21; (with_reducible refine (hasRP HP.out x).mono ?_); rintro e w4 ⟨rfl, hb⟩; have nP := Aside0.mk (HP.out.step hb); have nR := Aside0.mk (R_below HR.out hb); have nB := Aside0.mk (below_step HB.out hb); clear HP HR HB hb; have HP := nP; have HR := nR; have HB := nB; clear nP nR nB)
    | (go_at_call 34; (with_reducible refine (listC HP.out).mono ?_); rintro e w5 ⟨Ah, ch, rfl, hR2, hb⟩; have HR2 := Aside0.mk hR2; clear hR2; have nP := Aside0.mk (HP.out.step hb); have nR := Aside0.mk (R_below HR.out hb); have nB := Aside0.mk (below_step HB.out hb); clear HP HR HB hb; have HP := nP; have HR := nR; have HB := nB; clear nP nR nB)
    | (go_at_call 9; (with_reducible refine (sameP (Kd.R_reads' HR2.out).2.2 (Kd.R_reads' HR2.out).2.1 HP.out.orow.C HP.out.orow.cap HP.out.short.2).mono ?_); rintro e w4 ⟨rfl, hb⟩; clear HR2; have nP := Aside0.mk (HP.out.step hb); have nR := Aside0.mk (R_below HR.out hb); have nB := Aside0.mk (below_step HB.out hb); clear HP HR HB hb; have HP := nP; have HR := nR; have HB := nB; clear nP nR nB)
    | (go_at_call 23; (with_reducible refine (spoilP HB.out HR.out HP.out.short.1).mono ?_); rintro e w6 ⟨rfl, hb⟩; clear HP; have HP := Aside0.mk (HL.out.step hb); clear HL HR HB hb))
              exact ⟨⟨k + 1, _, _, _, _, some (gd, vd), _, _, _, by omega, by go_num, rfl, rfl, rfl, HP⟩, by simp [intOf]; omega⟩
            · have n4 : decide (kind = 4) = false := decide_eq_false k4
              have m4 : (kind == 4) = false := by simpa using k4
              clear k1 k2 k4
              go_wp2_with (first
    | (go_at_call 34; (with_reducible refine (listP HP.out).mono ?_); rintro e w3 ⟨Ag, cg, rfl, hR, hb⟩; have HL := HP; have HR := Aside0.mk hR; have HB := Aside0.mk hb; have nP := Aside0.mk (HP.out.step hb); clear HP hR hb HX; have HP := nP; clear nP)
    | (go_at_call 9; (with_reducible refine (sameP (Kd.R_reads' HR.out).2.2 (Kd.R_reads' HR.out).2.1 HP.out.row.C HP.out.row.cap HP.out.short.1).mono ?_); rintro e w4 ⟨rfl, hb⟩; have nP := Aside0.mk (HP.out.step hb); have nR := Aside0.mk (R_below HR.out hb); have nB := Aside0.mk (below_step HB.out hb); clear HP HR HB hb; have HP := nP; have HR := nR; have HB := nB; clear nP nR nB)
    | (go_at_call 35; (with_reducible refine (lenP HP.out).mono ?_); rintro e w4 ⟨rfl, rfl⟩)
    | (go_at_call 36; (with_reducible refine (hasP HP.out x).mono ?_); rintro e w4 ⟨rfl, rfl⟩)
    | (go_at_call 21; (with_reducible refine (hasRP HP.out x).mono ?_); rintro e w4 ⟨rfl, hb⟩; have nP := Aside0.mk (HP.out.step hb); have nR := Aside0.mk (R_below HR.out hb); have nB := Aside0.mk (below_step HB.out hb); clear HP HR HB hb; have HP := nP; have HR := nR; have HB := nB; clear nP nR nB)
    | (go_at_call 34; (with_reducible refine (listC HP.out).mono ?_); rintro e w5 ⟨Ah, ch, rfl, hR2, hb⟩; have HR2 := Aside0.mk hR2; clear hR2; have nP := Aside0.mk (HP.out.step hb); have nR := Aside0.mk (R_below HR.out hb); have nB := Aside0.mk (below_step HB.out hb); clear HP HR HB hb; have HP := nP; have HR := nR; have HB := nB; clear nP nR nB)
    | (go_at_call 9; (with_reducible refine (sameP (Kd.R_reads' HR2.out).2.2 (Kd.R_reads' HR2.out).2.1 HP.out.orow.C HP.out.orow.cap HP.out.short.2).mono ?_); rintro e w4 ⟨rfl, hb⟩; clear HR2; have nP := Aside0.mk (HP.out.step hb); have nR := Aside0.mk (R_below HR.out hb); have nB := Aside0.mk (below_step HB.out hb); clear HP HR HB hb; have HP := nP; have HR := nR; have HB := nB; clear nP nR nB)
    | (go_at_call 23; (with_reducible refine (spoilP HB.out HR.out HP.out.short.1).mono ?_); rintro e w6 ⟨rfl, hb⟩; clear HP; have HP := Aside0.mk (HL.out.step hb); clear HL HR HB hb))
              exact ⟨⟨k + 1, _, _, _, _, some (gc, vc), _, _, _, by omega, by go_num, rfl, rfl, rfl, HP⟩, by simp [intOf]; omega⟩
    · have i1 : ¬ ((k : Int) < (sc.length : Int)) := by omega
      clear hlt
      by_cases hx : (1152921504606846976 : Int) ∈ l
      · have HX := Aside0.mk hx
        clear hx
        go_wp2_with (first
        | (go_at_call 34; (with_reducible refine (listP HP.out).mono ?_); rintro e w3 ⟨Ag, cg, rfl, hR, hb⟩; have HR := Aside0.mk hR; have HB := Aside0.mk hb; have nP := Aside0.mk (HP.out.step hb); clear HP hR hb; have HP := nP; clear nP)
        | (go_at_call 9; (with_reducible refine (sameP (Kd.R_reads' HR.out).2.2 (Kd.R_reads' HR.out).2.1 HP.out.row.C HP.out.row.cap HP.out.short.1).mono ?_); rintro e w4 ⟨rfl, hb⟩; have nP := Aside0.mk (HP.out.step hb); have nR := Aside0.mk (R_below HR.out hb); have nB := Aside0.mk (below_step HB.out hb); clear HP HR HB hb; have HP := nP; have HR := nR; have HB := nB; clear nP nR nB)
        | (go_at_call 32; (with_reducible refine (del_in HP.out HX.out).mono ?_); rintro e w4 ⟨v2, rfl, hp⟩; clear HP HR HB; have HP := Aside0.mk hp; clear hp)
        | (go_at_call 21; (with_reducible refine (hasR_in HP.out HX.out).mono ?_); rintro e w4 ⟨rfl, hb⟩; have nP := Aside0.mk (HP.out.step hb); clear HP hb; have HP := nP; clear nP)
        | (go_at_call 13; refine (awake_calls _).mono ?_; rintro e w5 ⟨rfl, hb⟩; have nP := Aside0.mk (HP.out.step hb); clear HP hb; have HP := nP; clear nP))
        go_ret
        exact ⟨rfl, HP.out.below⟩
      · have HX := Aside0.mk hx
        clear hx
        go_wp2_with (first
        | (go_at_call 34; (with_reducible refine (listP HP.out).mono ?_); rintro e w3 ⟨Ag, cg, rfl, hR, hb⟩; have HR := Aside0.mk hR; have HB := Aside0.mk hb; have nP := Aside0.mk (HP.out.step hb); clear HP hR hb; have HP := nP; clear nP)
        | (go_at_call 9; (with_reducible refine (sameP (Kd.R_reads' HR.out).2.2 (Kd.R_reads' HR.out).2.1 HP.out.row.C HP.out.row.cap HP.out.short.1).mono ?_); rintro e w4 ⟨rfl, hb⟩; have nP := Aside0.mk (HP.out.step hb); have nR := Aside0.mk (R_below HR.out hb); have nB := Aside0.mk (below_step HB.out hb); clear HP HR HB hb; have HP := nP; have HR := nR; have HB := nB; clear nP nR nB)
        | (go_at_call 32; (with_reducible refine (del_out HP.out HX.out).mono ?_); rintro e w4 ⟨v2, rfl, hp⟩; clear HP HR HB; have HP := Aside0.mk hp; clear hp)
        | (go_at_call 21; (with_reducible refine (hasR_out HP.out HX.out).mono ?_); rintro e w4 ⟨rfl, hb⟩; have nP := Aside0.mk (HP.out.step hb); clear HP hb; have HP := nP; clear nP)
        | (go_at_call 13; refine (awake_calls _).mono ?_; rintro e w5 ⟨rfl, hb⟩; have nP := Aside0.mk (HP.out.step hb); clear HP hb; have HP := nP; clear nP))
        go_ret
        exact ⟨rfl, HP.out.below⟩
end Go.Proofs.Ytpidbaaojgdpmaa.SetW
