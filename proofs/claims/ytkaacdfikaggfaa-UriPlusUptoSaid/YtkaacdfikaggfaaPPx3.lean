/- Written by this claim's own program (hyb.py) out of the kit's print: Go functions as plain Lean functions, and that the machine's calls come to them. -/
import Derived.Test.YtkaacdfikaggfaaPPx0
import Derived.Test.YtkaacdfikaggfaaPPx1
import Derived.Test.YtkaacdfikaggfaaPPx2
namespace Go.Proofs.Ytkaacdfikaggfaa.PP
open Go.RowKit Go.Proofs.YtkaacdfikaggfaaW.PrintWords Go.Proofs.YtkaacdfikaggfaaW.PrintLast Go.Proofs.YtkaacdfikaggfaaW.PrintMore
attribute [local go_sem] max2_int min2_int max_two min_two max_three min_three max_four min_four   -- for this text's walks alone
set_option linter.unusedVariables false
set_option linter.unusedSimpArgs false

/-! ### cloisterlaw06_UriPlus: function 5 -/
mutual
def cloisterlaw06_UriPlus.l0 : Nat → ByteArray → List Int → List Int → Int → Option (Bool)
  | 0, _, _, _, _ => none
  | k + 1, x0, x3, x4, x5 => if x5 < (x0.size : Int) then (if 0 ≤ x5 then (if (bt x0 x5) = 43 then (if x3.length + 3 < 140737488355328 then (if x4.length + 3 < 140737488355328 then (cloisterlaw06_UriPlus.l0 k x0 (x3 ++ bytesOf (⟨#[37, 50, 48]⟩ : ByteArray)) (x4 ++ bytesOf (⟨#[37, 50, 66]⟩ : ByteArray)) (wrap64 (x5 + 1))) else (none)) else (none)) else (if x3.length < 140737488355328 then (if x4.length < 140737488355328 then (cloisterlaw06_UriPlus.l0 k x0 (x3 ++ [bt x0 x5]) (x4 ++ [bt x0 x5]) (wrap64 (x5 + 1))) else (none)) else (none))) else (none)) else ((uri_Decode.f x0 true).bind fun bt154 => ((uri_Decode.f (strOfNums x3) true).bind fun bt157 => ((uri_Decode.f x0 false).bind fun bt160 => ((uri_Decode.f (strOfNums x4) false).bind fun bt163 => (cloisterlaw06_UriPlus.l1 k x0 bt154.1 bt154.2.1 bt157.1 bt157.2.1 bt160.1 bt160.2.1 bt163.1 bt163.2.1 false 0)))))
def cloisterlaw06_UriPlus.l1 : Nat → ByteArray → ByteArray → Int → ByteArray → Int → ByteArray → Int → ByteArray → Int → Bool → Int → Option (Bool)
  | 0, _, _, _, _, _, _, _, _, _, _, _ => none
  | k + 1, x0, x6, x7, x9, x10, x12, x13, x15, x16, x18, x19 => if x19 < (x0.size : Int) then (if x18 = true then (cloisterlaw06_UriPlus.l1 k x0 x6 x7 x9 x10 x12 x13 x15 x16 true (wrap64 (x19 + 1))) else (if 0 ≤ x19 then (if (bt x0 x19) = 37 then (if (wrap64 (x19 + 1)) < (x0.size : Int) then (if 0 ≤ (wrap64 (x19 + 1)) then (if (bt x0 (wrap64 (x19 + 1))) = 43 then (cloisterlaw06_UriPlus.l1 k x0 x6 x7 x9 x10 x12 x13 x15 x16 true (wrap64 (x19 + 1))) else (if (wrap64 (x19 + 2)) < (x0.size : Int) then (if 0 ≤ (wrap64 (x19 + 2)) then (cloisterlaw06_UriPlus.l1 k x0 x6 x7 x9 x10 x12 x13 x15 x16 ((bt x0 (wrap64 (x19 + 2))) == 43) (wrap64 (x19 + 1))) else (none)) else (cloisterlaw06_UriPlus.l1 k x0 x6 x7 x9 x10 x12 x13 x15 x16 false (wrap64 (x19 + 1))))) else (none)) else (if (wrap64 (x19 + 2)) < (x0.size : Int) then (if 0 ≤ (wrap64 (x19 + 2)) then (cloisterlaw06_UriPlus.l1 k x0 x6 x7 x9 x10 x12 x13 x15 x16 ((bt x0 (wrap64 (x19 + 2))) == 43) (wrap64 (x19 + 1))) else (none)) else (cloisterlaw06_UriPlus.l1 k x0 x6 x7 x9 x10 x12 x13 x15 x16 false (wrap64 (x19 + 1))))) else (cloisterlaw06_UriPlus.l1 k x0 x6 x7 x9 x10 x12 x13 x15 x16 false (wrap64 (x19 + 1)))) else (none))) else (if x18 = true then (if x7 = 60 then (if x13 = 60 then ((cloisterlaw06_awake.f).bind fun t166 => (if t166 = true then (some true) else (if x6.toList = x9.toList then (if x7 = x10 then (if x12.toList = x15.toList then (if x13 = x16 then (if x7 = x13 then ((cloisterlaw06_awake.f).bind fun t167 => (some t167)) else (some false)) else (some false)) else (some false)) else (some false)) else (some false)))) else (if x6.toList = x9.toList then (if x7 = x10 then (if x12.toList = x15.toList then (if x13 = x16 then (if x7 = x13 then ((cloisterlaw06_awake.f).bind fun t168 => (some t168)) else (some false)) else (some false)) else (some false)) else (some false)) else (some false))) else (if x6.toList = x9.toList then (if x7 = x10 then (if x12.toList = x15.toList then (if x13 = x16 then (if x7 = x13 then ((cloisterlaw06_awake.f).bind fun t169 => (some t169)) else (some false)) else (some false)) else (some false)) else (some false)) else (some false))) else (if x6.toList = x9.toList then (if x7 = x10 then (if x12.toList = x15.toList then (if x13 = x16 then (if x7 = x13 then ((cloisterlaw06_awake.f).bind fun t170 => (some t170)) else (some false)) else (some false)) else (some false)) else (some false)) else (some false)))
end
def cloisterlaw06_UriPlus.f (k : Nat) (a0 : ByteArray) : Option (Bool) := cloisterlaw06_UriPlus.l0 k a0 ([] : List Int) ([] : List Int) 0
theorem cloisterlaw06_UriPlus.mono_l : ∀ k, (∀ y0 y1 y2 y3, LeO (cloisterlaw06_UriPlus.l0 k y0 y1 y2 y3) (cloisterlaw06_UriPlus.l0 (k + 1) y0 y1 y2 y3)) ∧ (∀ y0 y1 y2 y3 y4 y5 y6 y7 y8 y9 y10, LeO (cloisterlaw06_UriPlus.l1 k y0 y1 y2 y3 y4 y5 y6 y7 y8 y9 y10) (cloisterlaw06_UriPlus.l1 (k + 1) y0 y1 y2 y3 y4 y5 y6 y7 y8 y9 y10))
  | 0 => ⟨fun _ _ _ _ r h => by simp [cloisterlaw06_UriPlus.l0] at h, fun _ _ _ _ _ _ _ _ _ _ _ r h => by simp [cloisterlaw06_UriPlus.l1] at h⟩
  | k + 1 => by
    obtain ⟨ih0, ih1⟩ := cloisterlaw06_UriPlus.mono_l k
    refine ⟨?_, ?_⟩
    · intro y0 y1 y2 y3
      unfold cloisterlaw06_UriPlus.l0
      repeat' first
      | (with_reducible exact ih0 _ _ _ _)
      | (with_reducible exact ih1 _ _ _ _ _ _ _ _ _ _ _)
      | (with_reducible exact LeO.refl _)
      | (with_reducible exact LeO.none _)
      | (with_reducible refine LeO.ite ?_ ?_)
      | (with_reducible refine LeO.bind ?_ (fun _ => ?_))
      | exact ih0 _ _ _ _
      | exact ih1 _ _ _ _ _ _ _ _ _ _ _
      | exact LeO.none _
      | refine LeO.ite ?_ ?_
      | refine LeO.bind ?_ (fun _ => ?_)
    · intro y0 y1 y2 y3 y4 y5 y6 y7 y8 y9 y10
      unfold cloisterlaw06_UriPlus.l1
      repeat' first
      | (with_reducible exact ih0 _ _ _ _)
      | (with_reducible exact ih1 _ _ _ _ _ _ _ _ _ _ _)
      | (with_reducible exact LeO.refl _)
      | (with_reducible exact LeO.none _)
      | (with_reducible refine LeO.ite ?_ ?_)
      | (with_reducible refine LeO.bind ?_ (fun _ => ?_))
      | exact ih0 _ _ _ _
      | exact ih1 _ _ _ _ _ _ _ _ _ _ _
      | exact LeO.none _
      | refine LeO.ite ?_ ?_
      | refine LeO.bind ?_ (fun _ => ?_)
theorem cloisterlaw06_UriPlus.mono : ∀ a0 k, LeO (cloisterlaw06_UriPlus.f k a0) (cloisterlaw06_UriPlus.f (k + 1) a0) := by
  intro a0 k
  obtain ⟨ih0, ih1⟩ := cloisterlaw06_UriPlus.mono_l k
  unfold cloisterlaw06_UriPlus.f
  repeat' first
      | (with_reducible exact ih0 _ _ _ _)
      | (with_reducible exact ih1 _ _ _ _ _ _ _ _ _ _ _)
      | (with_reducible exact LeO.refl _)
      | (with_reducible exact LeO.none _)
      | (with_reducible refine LeO.ite ?_ ?_)
      | (with_reducible refine LeO.bind ?_ (fun _ => ?_))
      | exact ih0 _ _ _ _
      | exact ih1 _ _ _ _ _ _ _ _ _ _ _
      | exact LeO.none _
      | refine LeO.ite ?_ ?_
      | refine LeO.bind ?_ (fun _ => ?_)
set_option maxHeartbeats 8000000 in
set_option maxRecDepth 100000 in
theorem cloisterlaw06_UriPlus.calls (k : Nat) (a0 : ByteArray) (r : Bool) (w : World) (h : cloisterlaw06_UriPlus.f k a0 = some r) :
    Calls Try.prog 5 #[.string a0] w fun e w' => e = .returned (.bool r) ∧ Below w.heap.size w w' := by
  have HB := Aside0.mk (Below.refl w.heap.size w)
  have H : (cloisterlaw06_UriPlus.l0 k a0 ([] : List Int) ([] : List Int) 0) = some r := h
  clear h
  have H' := Aside0.mk H
  clear H
  go_enter Try.func5, Try.ntmps5
  go_wp2
  go_loopg [3, 4, 5] k (fun kq v3 v4 v5 w' => ∃ (x3_1 : List Int) (x4_1 : List Int) (x5_1 : Int), v5 = .int .i64 x5_1 ∧ Aside0 (cloisterlaw06_UriPlus.l0 kq a0 x3_1 x4_1 x5_1 = some r) ∧ Aside0 (kq ≤ k) ∧ Aside0 (Kd.R (Kd.int .u8) 5 w' w.heap.size (fun k_ => some k_ ≠ (v4 : Value).ownBlock) v3 x3_1) ∧ Aside0 (Kd.R (Kd.int .u8) 5 w' w.heap.size (fun k_ => some k_ ≠ (v3 : Value).ownBlock) v4 x4_1) ∧ Aside0 (Below w.heap.size w w'))
  case atStart => exact ⟨(([] : List Int)), (([] : List Int)), (0), (by first | rfl | (simp; done) | (simp [*]; done)), H', ⟨Nat.le_refl _⟩, ⟨by first | exact Kd.R_nil _ _ _ _ _ | exact Kd.N_nil _ _ _ _ _ | exact Kd.V_nil _ _ _ _ _ | exact Kd.Q_nil _ _ _ _ _ | exact Kd.S_nil _ _ _ _ _⟩, ⟨by first | exact Kd.R_nil _ _ _ _ _ | exact Kd.N_nil _ _ _ _ _ | exact Kd.V_nil _ _ _ _ _ | exact Kd.Q_nil _ _ _ _ _ | exact Kd.S_nil _ _ _ _ _⟩, ⟨by repeat (first | (with_reducible first | exact HB.out | apply below_alloc | apply pw_below_drewN | apply below_drew1) | exact HB.out)⟩⟩
  case round =>
    clear H'
    obtain ⟨x3_1, x4_1, x5_1, rfl, HA, HK1, HO_3, HO_4, HB⟩ := hrel
    cases gk with
    | zero => exact absurd HA.out (by simp [cloisterlaw06_UriPlus.l0])
    | succ k1 =>
      have H := HA.out
      clear HA
      simp only [cloisterlaw06_UriPlus.l0] at H
      by_cases c2 : x5_1 < (a0.size : Int)
      · rw [if_pos c2] at H
        have c2b0 : decide (x5_1 < (a0.size : Int)) = true := decide_eq_true c2
        clear c2
        by_cases c3 : 0 ≤ x5_1
        · rw [if_pos c3] at H
          have c3b0 : decide (0 ≤ x5_1) = true := decide_eq_true c3
          clear c3
          by_cases c5 : (bt a0 x5_1) = 43
          · rw [if_pos c5] at H
            have c5b0 : ((bt a0 x5_1) == 43) = true := beq_iff_eq.mpr c5
            have c5b1 : ((bt a0 x5_1) != 43) = false := bne_eq_false_iff_eq.mpr c5
            clear c5
            by_cases c6 : x3_1.length + 3 < 140737488355328
            · rw [if_pos c6] at H
              have LMc6 := Aside0.mk c6
              clear c6
              obtain ⟨y142, hy142⟩ : ∃ y_ : List Int, y_ = (x3_1 ++ bytesOf (⟨#[37, 50, 48]⟩ : ByteArray)) := ⟨_, rfl⟩
              replace H : (if x4_1.length + 3 < 140737488355328 then (cloisterlaw06_UriPlus.l0 k1 a0 y142 (x4_1 ++ bytesOf (⟨#[37, 50, 66]⟩ : ByteArray)) (wrap64 (x5_1 + 1))) else (none)) = some r := by first | (rw [hy142]; with_reducible exact H) | (have H2_ := (Option.bind_some _ _).symm.trans H; rw [hy142]; with_reducible exact H2_) | (have H2_ := (Option.bind_some _ _).symm.trans H; with_reducible exact H2_) | with_reducible exact H | (rw [hy142]; exact H) | exact H
              have Ny142 := Aside0.mk hy142
              clear hy142
              by_cases c7 : x4_1.length + 3 < 140737488355328
              · rw [if_pos c7] at H
                have LMc7 := Aside0.mk c7
                clear c7
                obtain ⟨y145, hy145⟩ : ∃ y_ : List Int, y_ = (x4_1 ++ bytesOf (⟨#[37, 50, 66]⟩ : ByteArray)) := ⟨_, rfl⟩
                replace H : (cloisterlaw06_UriPlus.l0 k1 a0 y142 y145 (wrap64 (x5_1 + 1))) = some r := by first | (rw [hy145]; with_reducible exact H) | (have H2_ := (Option.bind_some _ _).symm.trans H; rw [hy145]; with_reducible exact H2_) | (have H2_ := (Option.bind_some _ _).symm.trans H; with_reducible exact H2_) | with_reducible exact H | (rw [hy145]; exact H) | exact H
                have Ny145 := Aside0.mk hy145
                clear hy145
                have H' := Aside0.mk H
                clear H
                have p4 : 0 ≤ (x5_1 : Int) := of_decide_eq_true (by first | (with_reducible assumption) | assumption)
                have q4 : x5_1 < (a0.size : Int) := of_decide_eq_true (by first | (with_reducible assumption) | assumption)
                have hx4 := bt_at a0 x5_1
                replace p4 := eq_true p4
                replace q4 := eq_true q4
                go_wp2_with (first | (at_builtin; refine Go.Proofs.Ytkaacdfikaggfaa.Hat.append_str (w0 := w) w.heap.size rfl (.tmp 30) _ 34 9 5 rfl Try.underlying34 Try.underlying9 info5 u3 x3_1 (⟨#[37, 50, 48]⟩ : ByteArray) rfl rfl ?aO ?aB ?aS ?aL ?_; (case aB => exact (by repeat (first | (with_reducible first | exact HB.out | apply below_alloc | apply pw_below_drewN | apply below_drew1) | exact HB.out))); (case aO => exact (Kd.own_of_R (by (with_reducible repeat (first | apply Kd.R_alloc | apply Kd.R_drewN | apply Kd.R_drew)); exact HO_3.out))); (case aS => exact (below_size (by repeat (first | (with_reducible first | exact HB.out | apply below_alloc | apply pw_below_drewN | apply below_drew1) | exact HB.out)))); (case aL => have := LMc6.out; have z_ : (⟨#[37, 50, 48]⟩ : ByteArray).size = 3 := rfl; omega); intro v143 w8 ho0 hb hg hat; have ho := Kd.R_of_own (h1 := fun _ => rfl) (ok := fun k_ => some k_ ≠ (u4 : Value).ownBlock) ho0 (fun k_ hk_ => hat.elim (fun e_ => (HO_3.out).1 k_ (e_ ▸ hk_)) (fun h_ => by obtain ⟨b_, e_, l_⟩ := h_; rw [e_] at hk_; injection hk_ with hk_; subst hk_; exact Kd.fresh' (Kd.R_lt HO_4.out) _ l_)); clear ho0; rw [← Ny142.out] at ho; change Kd.R (Kd.int .u8) 5 w8 w.heap.size (fun k_ => some k_ ≠ (u4 : Value).ownBlock) v143 y142 at ho; have n0_ := Aside0.mk (Kd.R_after (ok := (fun _ => True)) (by (with_reducible repeat (first | apply Kd.R_alloc | apply Kd.R_drewN | apply Kd.R_drew)); exact Kd.R_mono HO_4.out (fun _ hk => ⟨trivial, hk⟩)) hg hat); have n1_ := Aside0.mk (hb); have n2_ := Aside0.mk (ho); clear HO_4; clear HB; clear HO_3; have HO_4 := n0_; have HB := n1_; have HO144 := n2_; clear n0_ n1_ n2_; clear ho hb hg hat) | (at_builtin; refine Go.Proofs.Ytkaacdfikaggfaa.Hat.append_str (w0 := w) w.heap.size rfl (.tmp 32) _ 34 9 5 rfl Try.underlying34 Try.underlying9 info5 u4 x4_1 (⟨#[37, 50, 66]⟩ : ByteArray) rfl rfl ?aO ?aB ?aS ?aL ?_; (case aB => exact (by repeat (first | (with_reducible first | exact HB.out | apply below_alloc | apply pw_below_drewN | apply below_drew1) | exact HB.out))); (case aO => exact (Kd.own_of_R (by (with_reducible repeat (first | apply Kd.R_alloc | apply Kd.R_drewN | apply Kd.R_drew)); exact Kd.R_mono HO_4.out (fun _ hk => hk.2)))); (case aS => exact (below_size (by repeat (first | (with_reducible first | exact HB.out | apply below_alloc | apply pw_below_drewN | apply below_drew1) | exact HB.out)))); (case aL => have := LMc7.out; have z_ : (⟨#[37, 50, 66]⟩ : ByteArray).size = 3 := rfl; omega); intro v146 w9 ho0 hb hg hat; have ho := Kd.R_of_own (h1 := fun _ => rfl) (ok := fun k_ => some k_ ≠ (v143 : Value).ownBlock) ho0 (fun k_ hk_ => hat.elim (fun e_ => (Kd.R_mono (ok' := fun k_ => some k_ ≠ (v143 : Value).ownBlock) HO_4.out (fun _ hk => hk.2)).1 k_ (e_ ▸ hk_)) (fun h_ => by obtain ⟨b_, e_, l_⟩ := h_; rw [e_] at hk_; injection hk_ with hk_; subst hk_; exact Kd.fresh' (Kd.R_lt HO144.out) _ l_)); clear ho0; rw [← Ny145.out] at ho; change Kd.R (Kd.int .u8) 5 w9 w.heap.size (fun k_ => some k_ ≠ (v143 : Value).ownBlock) v146 y145 at ho; have n0_ := Aside0.mk (Kd.R_after (ok := (fun _ => True)) (by (with_reducible repeat (first | apply Kd.R_alloc | apply Kd.R_drewN | apply Kd.R_drew)); exact Kd.R_mono HO144.out (fun _ hk => ⟨trivial, hk⟩)) hg hat); have n1_ := Aside0.mk (hb); have n2_ := Aside0.mk (ho); clear HO144; clear HB; clear HO_4; have HO144 := n0_; have HB := n1_; have HO147 := n2_; clear n0_ n1_ n2_; clear ho hb hg hat))
                go_roundg k1
                case measure => have := HK1.out; omega
                case rel => exact ⟨(y142), (y145), (wrap64 (x5_1 + 1)), (by first | rfl | (simp; done) | (simp [*]; done)), H', ⟨by have := HK1.out; omega⟩, ⟨by (with_reducible repeat (first | apply Kd.R_alloc | apply Kd.R_drewN | apply Kd.R_drew)); exact Kd.R_mono HO144.out (fun _ hk => hk.2)⟩, ⟨by (with_reducible repeat (first | apply Kd.R_alloc | apply Kd.R_drewN | apply Kd.R_drew)); exact HO147.out⟩, ⟨by repeat (first | (with_reducible first | exact HB.out | apply below_alloc | apply pw_below_drewN | apply below_drew1) | exact HB.out)⟩⟩
              · rw [if_neg c7] at H
                exact absurd H (by simp)
            · rw [if_neg c6] at H
              exact absurd H (by simp)
          · rw [if_neg c5] at H
            have c5b0 : ((bt a0 x5_1) == 43) = false := beq_eq_false_iff_ne.mpr c5
            have c5b1 : ((bt a0 x5_1) != 43) = true := bne_iff_ne.mpr c5
            by_cases c11 : x3_1.length < 140737488355328
            · rw [if_pos c11] at H
              have LMc11 := Aside0.mk c11
              clear c11
              obtain ⟨y148, hy148⟩ : ∃ y_ : List Int, y_ = (x3_1 ++ [bt a0 x5_1]) := ⟨_, rfl⟩
              replace H : (if x4_1.length < 140737488355328 then (cloisterlaw06_UriPlus.l0 k1 a0 y148 (x4_1 ++ [bt a0 x5_1]) (wrap64 (x5_1 + 1))) else (none)) = some r := by first | (rw [hy148]; with_reducible exact H) | (have H2_ := (Option.bind_some _ _).symm.trans H; rw [hy148]; with_reducible exact H2_) | (have H2_ := (Option.bind_some _ _).symm.trans H; with_reducible exact H2_) | with_reducible exact H | (rw [hy148]; exact H) | exact H
              have Ny148 := Aside0.mk hy148
              clear hy148
              by_cases c13 : x4_1.length < 140737488355328
              · rw [if_pos c13] at H
                have LMc13 := Aside0.mk c13
                clear c13
                obtain ⟨y151, hy151⟩ : ∃ y_ : List Int, y_ = (x4_1 ++ [bt a0 x5_1]) := ⟨_, rfl⟩
                replace H : (cloisterlaw06_UriPlus.l0 k1 a0 y148 y151 (wrap64 (x5_1 + 1))) = some r := by first | (rw [hy151]; with_reducible exact H) | (have H2_ := (Option.bind_some _ _).symm.trans H; rw [hy151]; with_reducible exact H2_) | (have H2_ := (Option.bind_some _ _).symm.trans H; with_reducible exact H2_) | with_reducible exact H | (rw [hy151]; exact H) | exact H
                have Ny151 := Aside0.mk hy151
                clear hy151
                have H' := Aside0.mk H
                clear H
                have p4 : 0 ≤ (x5_1 : Int) := of_decide_eq_true (by first | (with_reducible assumption) | assumption)
                have q4 : x5_1 < (a0.size : Int) := of_decide_eq_true (by first | (with_reducible assumption) | assumption)
                have hx4 := bt_at a0 x5_1
                replace p4 := eq_true p4
                replace q4 := eq_true q4
                have p10 : 0 ≤ (x5_1 : Int) := of_decide_eq_true (by first | (with_reducible assumption) | assumption)
                have q10 : x5_1 < (a0.size : Int) := of_decide_eq_true (by first | (with_reducible assumption) | assumption)
                have hx10 := bt_at a0 x5_1
                replace p10 := eq_true p10
                replace q10 := eq_true q10
                go_wp2_with (first | ((with_reducible refine gate_builtin (b := .append) (xs := #[.tmp 34, .tmp 38]) rfl ?_); (try (refine gate_guard (by rfl) ?_; dsimp only)); at_builtin; refine Kd.R_append (Kd.int .u8) (w0 := w) w.heap.size rfl (.tmp 34) (.tmp 38) 34 5 (.int .u8 0) 1 rfl Try.underlying34 info5 rfl (by decide) (by omega) u3 x3_1 (bt a0 x5_1) [.int .u8 (bt a0 x5_1)] (fun k_ => some k_ ≠ (u4 : Value).ownBlock) (fun _ => False) rfl rfl ?aP (fun _ hk => hk.elim) ?aF ?aO ?aB ?aS ?aL ?_; (case aP => exact rfl); (case aB => exact (by repeat (first | (with_reducible first | exact HB.out | apply below_alloc | apply pw_below_drewN | apply below_drew1) | exact HB.out))); (case aF => exact (fun k_ hk => Kd.fresh' (Kd.R_lt (by (with_reducible repeat (first | apply Kd.R_alloc | apply Kd.R_drewN | apply Kd.R_drew)); exact HO_4.out)) k_ hk)); (case aO => exact (by (with_reducible repeat (first | apply Kd.R_alloc | apply Kd.R_drewN | apply Kd.R_drew)); exact HO_3.out)); (case aS => exact (below_size (by repeat (first | (with_reducible first | exact HB.out | apply below_alloc | apply pw_below_drewN | apply below_drew1) | exact HB.out)))); (case aL => have := LMc11.out; omega); intro v149 w14 ho hb hg hat; rw [← Ny148.out] at ho; have n0_ := Aside0.mk (Kd.R_after (ok := (fun _ => True)) (by (with_reducible repeat (first | apply Kd.R_alloc | apply Kd.R_drewN | apply Kd.R_drew)); exact Kd.R_mono HO_4.out (fun _ hk => ⟨trivial, hk⟩)) hg hat); have n1_ := Aside0.mk (hb); have n2_ := Aside0.mk (ho); clear HO_4; clear HB; clear HO_3; have HO_4 := n0_; have HB := n1_; have HO150 := n2_; clear n0_ n1_ n2_; clear ho hb hg hat; have p12 : 0 ≤ (x5_1 : Int) := of_decide_eq_true (by first | (with_reducible assumption) | assumption); have q12 : x5_1 < (a0.size : Int) := of_decide_eq_true (by first | (with_reducible assumption) | assumption); have hx12 := bt_at a0 x5_1; replace p12 := eq_true p12; replace q12 := eq_true q12) | ((with_reducible refine gate_builtin (b := .append) (xs := #[.tmp 40, .tmp 44]) rfl ?_); (try (refine gate_guard (by rfl) ?_; dsimp only)); at_builtin; refine Kd.R_append (Kd.int .u8) (w0 := w) w.heap.size rfl (.tmp 40) (.tmp 44) 34 5 (.int .u8 0) 1 rfl Try.underlying34 info5 rfl (by decide) (by omega) u4 x4_1 (bt a0 x5_1) [.int .u8 (bt a0 x5_1)] (fun k_ => some k_ ≠ (v149 : Value).ownBlock) (fun _ => False) rfl rfl ?aP (fun _ hk => hk.elim) ?aF ?aO ?aB ?aS ?aL ?_; (case aP => exact rfl); (case aB => exact (by repeat (first | (with_reducible first | exact HB.out | apply below_alloc | apply pw_below_drewN | apply below_drew1) | exact HB.out))); (case aF => exact (fun k_ hk => Kd.fresh' (Kd.R_lt (by (with_reducible repeat (first | apply Kd.R_alloc | apply Kd.R_drewN | apply Kd.R_drew)); exact HO150.out)) k_ hk)); (case aO => exact (by (with_reducible repeat (first | apply Kd.R_alloc | apply Kd.R_drewN | apply Kd.R_drew)); exact Kd.R_mono HO_4.out (fun _ hk => hk.2))); (case aS => exact (below_size (by repeat (first | (with_reducible first | exact HB.out | apply below_alloc | apply pw_below_drewN | apply below_drew1) | exact HB.out)))); (case aL => have := LMc13.out; omega); intro v152 w15 ho hb hg hat; rw [← Ny151.out] at ho; have n0_ := Aside0.mk (Kd.R_after (ok := (fun _ => True)) (by (with_reducible repeat (first | apply Kd.R_alloc | apply Kd.R_drewN | apply Kd.R_drew)); exact Kd.R_mono HO150.out (fun _ hk => ⟨trivial, hk⟩)) hg hat); have n1_ := Aside0.mk (hb); have n2_ := Aside0.mk (ho); clear HO150; clear HB; clear HO_4; have HO150 := n0_; have HB := n1_; have HO153 := n2_; clear n0_ n1_ n2_; clear ho hb hg hat))
                go_roundg k1
                case measure => have := HK1.out; omega
                case rel => exact ⟨(y148), (y151), (wrap64 (x5_1 + 1)), (by first | rfl | (simp; done) | (simp [*]; done)), H', ⟨by have := HK1.out; omega⟩, ⟨by (with_reducible repeat (first | apply Kd.R_alloc | apply Kd.R_drewN | apply Kd.R_drew)); exact Kd.R_mono HO150.out (fun _ hk => hk.2)⟩, ⟨by (with_reducible repeat (first | apply Kd.R_alloc | apply Kd.R_drewN | apply Kd.R_drew)); exact HO153.out⟩, ⟨by repeat (first | (with_reducible first | exact HB.out | apply below_alloc | apply pw_below_drewN | apply below_drew1) | exact HB.out)⟩⟩
              · rw [if_neg c13] at H
                exact absurd H (by simp)
            · rw [if_neg c11] at H
              exact absurd H (by simp)
        · rw [if_neg c3] at H
          exact absurd H (by simp)
      · rw [if_neg c2] at H
        have c2b0 : decide (x5_1 < (a0.size : Int)) = false := decide_eq_false c2
        clear c2
        replace H := Option.bind_eq_some_iff.mp H
        obtain ⟨⟨t154, t155, t156⟩, A160, H⟩ := H
        replace H : ((uri_Decode.f (strOfNums x3_1) true).bind fun bt157 => ((uri_Decode.f a0 false).bind fun bt160 => ((uri_Decode.f (strOfNums x4_1) false).bind fun bt163 => (cloisterlaw06_UriPlus.l1 k1 a0 t154 t155 bt157.1 bt157.2.1 bt160.1 bt160.2.1 bt163.1 bt163.2.1 false 0)))) = some r := H
        have A16 := Aside0.mk A160
        clear A160
        replace H := Option.bind_eq_some_iff.mp H
        obtain ⟨⟨t157, t158, t159⟩, A170, H⟩ := H
        replace H : ((uri_Decode.f a0 false).bind fun bt160 => ((uri_Decode.f (strOfNums x4_1) false).bind fun bt163 => (cloisterlaw06_UriPlus.l1 k1 a0 t154 t155 t157 t158 bt160.1 bt160.2.1 bt163.1 bt163.2.1 false 0))) = some r := H
        have A17 := Aside0.mk A170
        clear A170
        replace H := Option.bind_eq_some_iff.mp H
        obtain ⟨⟨t160, t161, t162⟩, A180, H⟩ := H
        replace H : ((uri_Decode.f (strOfNums x4_1) false).bind fun bt163 => (cloisterlaw06_UriPlus.l1 k1 a0 t154 t155 t157 t158 t160 t161 bt163.1 bt163.2.1 false 0)) = some r := H
        have A18 := Aside0.mk A180
        clear A180
        replace H := Option.bind_eq_some_iff.mp H
        obtain ⟨⟨t163, t164, t165⟩, A190, H⟩ := H
        replace H : (cloisterlaw06_UriPlus.l1 k1 a0 t154 t155 t157 t158 t160 t161 t163 t164 false 0) = some r := H
        have A19 := Aside0.mk A190
        clear A190
        have H' := Aside0.mk H
        clear H
        go_wp2_with (first | ((with_reducible refine gate_callee (f := 8) rfl ?_); refine goesL_ (some 48) rfl rfl Try.func8 (by kernel_rfl) rfl #[.string a0, .bool true] rfl (by (try simp only [List.map_toArray, List.map_cons, List.map_nil]); first | done | rfl | (simp only [List.length_drop, List.length_take]; rfl)) ?_; (with_reducible refine (uri_Decode.calls a0 true t154 t155 t156 _ A16.out).mono ?_); rintro e w20 ⟨rfl, hb⟩; refine ⟨_, rfl, ?_⟩; have n0_ := Aside0.mk (Kd.R_below (by (with_reducible repeat (first | apply Kd.R_alloc | apply Kd.R_drewN | apply Kd.R_drew)); exact HO_3.out) hb); have n1_ := Aside0.mk (Kd.R_below (by (with_reducible repeat (first | apply Kd.R_alloc | apply Kd.R_drewN | apply Kd.R_drew)); exact HO_4.out) hb); have n2_ := Aside0.mk (below_step (by repeat (first | (with_reducible first | exact HB.out | apply below_alloc | apply pw_below_drewN | apply below_drew1) | exact HB.out)) hb); clear HO_3; clear HO_4; clear HB; have HO_3 := n0_; have HO_4 := n1_; have HB := n2_; clear n0_ n1_ n2_; (try clear hb); (try clear hb2); (try clear hk); (try clear hi); have hcv21 := own_string (P := Try.prog) Try.underlying34 Try.underlying5 Try.underlying9 (Kd.own_of_R HO_3.out)) | ((with_reducible refine gate_callee (f := 8) rfl ?_); refine goesL_ (some 55) rfl rfl Try.func8 (by kernel_rfl) rfl #[.string (strOfNums x3_1), .bool true] rfl (by (try simp only [List.map_toArray, List.map_cons, List.map_nil]); first | done | rfl | (simp only [List.length_drop, List.length_take]; rfl)) ?_; (with_reducible refine (uri_Decode.calls (strOfNums x3_1) true t157 t158 t159 _ A17.out).mono ?_); rintro e w22 ⟨rfl, hb⟩; refine ⟨_, rfl, ?_⟩; have n0_ := Aside0.mk (Kd.R_below (by (with_reducible repeat (first | apply Kd.R_alloc | apply Kd.R_drewN | apply Kd.R_drew)); exact HO_3.out) hb); have n1_ := Aside0.mk (Kd.R_below (by (with_reducible repeat (first | apply Kd.R_alloc | apply Kd.R_drewN | apply Kd.R_drew)); exact HO_4.out) hb); have n2_ := Aside0.mk (below_step (by repeat (first | (with_reducible first | exact HB.out | apply below_alloc | apply pw_below_drewN | apply below_drew1) | exact HB.out)) hb); clear HO_3; clear HO_4; clear HB; have HO_3 := n0_; have HO_4 := n1_; have HB := n2_; clear n0_ n1_ n2_; (try clear hb); (try clear hb2); (try clear hk); (try clear hi)) | ((with_reducible refine gate_callee (f := 8) rfl ?_); refine goesL_ (some 61) rfl rfl Try.func8 (by kernel_rfl) rfl #[.string a0, .bool false] rfl (by (try simp only [List.map_toArray, List.map_cons, List.map_nil]); first | done | rfl | (simp only [List.length_drop, List.length_take]; rfl)) ?_; (with_reducible refine (uri_Decode.calls a0 false t160 t161 t162 _ A18.out).mono ?_); rintro e w23 ⟨rfl, hb⟩; refine ⟨_, rfl, ?_⟩; have n0_ := Aside0.mk (Kd.R_below (by (with_reducible repeat (first | apply Kd.R_alloc | apply Kd.R_drewN | apply Kd.R_drew)); exact HO_3.out) hb); have n1_ := Aside0.mk (Kd.R_below (by (with_reducible repeat (first | apply Kd.R_alloc | apply Kd.R_drewN | apply Kd.R_drew)); exact HO_4.out) hb); have n2_ := Aside0.mk (below_step (by repeat (first | (with_reducible first | exact HB.out | apply below_alloc | apply pw_below_drewN | apply below_drew1) | exact HB.out)) hb); clear HO_3; clear HO_4; clear HB; have HO_3 := n0_; have HO_4 := n1_; have HB := n2_; clear n0_ n1_ n2_; (try clear hb); (try clear hb2); (try clear hk); (try clear hi); have hcv24 := own_string (P := Try.prog) Try.underlying34 Try.underlying5 Try.underlying9 (Kd.own_of_R HO_4.out)) | ((with_reducible refine gate_callee (f := 8) rfl ?_); refine goesL_ (some 68) rfl rfl Try.func8 (by kernel_rfl) rfl #[.string (strOfNums x4_1), .bool false] rfl (by (try simp only [List.map_toArray, List.map_cons, List.map_nil]); first | done | rfl | (simp only [List.length_drop, List.length_take]; rfl)) ?_; (with_reducible refine (uri_Decode.calls (strOfNums x4_1) false t163 t164 t165 _ A19.out).mono ?_); rintro e w25 ⟨rfl, hb⟩; refine ⟨_, rfl, ?_⟩; have n0_ := Aside0.mk (Kd.R_below (by (with_reducible repeat (first | apply Kd.R_alloc | apply Kd.R_drewN | apply Kd.R_drew)); exact HO_3.out) hb); have n1_ := Aside0.mk (Kd.R_below (by (with_reducible repeat (first | apply Kd.R_alloc | apply Kd.R_drewN | apply Kd.R_drew)); exact HO_4.out) hb); have n2_ := Aside0.mk (below_step (by repeat (first | (with_reducible first | exact HB.out | apply below_alloc | apply pw_below_drewN | apply below_drew1) | exact HB.out)) hb); clear HO_3; clear HO_4; clear HB; have HO_3 := n0_; have HO_4 := n1_; have HB := n2_; clear n0_ n1_ n2_; (try clear hb); (try clear hb2); (try clear hk); (try clear hi)))
        go_loopg [18, 19] k1 (fun kq v18 v19 w' => ∃ (x18_2 : Bool) (x19_2 : Int), v18 = .bool x18_2 ∧ v19 = .int .i64 x19_2 ∧ Aside0 (cloisterlaw06_UriPlus.l1 kq a0 t154 t155 t157 t158 t160 t161 t163 t164 x18_2 x19_2 = some r) ∧ Aside0 (kq ≤ k1) ∧ Aside0 (Below w.heap.size w w'))
        case atStart => exact ⟨(false), (0), (by first | rfl | (simp; done) | (simp [*]; done)), (by first | rfl | (simp; done) | (simp [*]; done)), H', ⟨Nat.le_refl _⟩, ⟨by repeat (first | (with_reducible first | exact HB.out | apply below_alloc | apply pw_below_drewN | apply below_drew1) | exact HB.out)⟩⟩
        case round =>
          clear H'
          try clear c1
          try clear p1
          try clear q1
          try clear hx1
          try clear c2
          try clear c2b0
          try clear p2
          try clear hcv2
          try clear c3
          try clear c3b0
          try clear p4
          try clear q4
          try clear hx4
          try clear c5
          try clear c5b0
          try clear c5b1
          try clear c6
          try clear p6
          try clear c7
          try clear c8
          try clear p10
          try clear q10
          try clear hx10
          try clear c11
          try clear p12
          try clear q12
          try clear hx12
          try clear c13
          try clear hcv21
          try clear hcv24
          try clear p10
          try clear p12
          try clear p4
          try clear q10
          try clear q12
          try clear q4
          obtain ⟨x18_2, x19_2, rfl, rfl, HA, HK2, HB⟩ := hrel
          cases gk with
          | zero => exact absurd HA.out (by simp [cloisterlaw06_UriPlus.l1])
          | succ k2 =>
            have H := HA.out
            clear HA
            simp only [cloisterlaw06_UriPlus.l1] at H
            by_cases c26 : x19_2 < (a0.size : Int)
            · rw [if_pos c26] at H
              have c26b0 : decide (x19_2 < (a0.size : Int)) = true := decide_eq_true c26
              clear c26
              by_cases c27 : x18_2 = true
              · subst c27
                have H1 : (cloisterlaw06_UriPlus.l1 k2 a0 t154 t155 t157 t158 t160 t161 t163 t164 true (wrap64 (x19_2 + 1))) = some r := by rw [if_pos rfl] at H; exact H
                clear H
                have H := H1
                clear H1
                have H' := Aside0.mk H
                clear H
                go_wp2
                go_roundg k2
                case measure => have := HK1.out; have := HK2.out; omega
                case rel => exact ⟨(true), (wrap64 (x19_2 + 1)), (by first | rfl | (simp; done) | (simp [*]; done)), (by first | rfl | (simp; done) | (simp [*]; done)), H', ⟨by have := HK1.out; have := HK2.out; omega⟩, ⟨by repeat (first | (with_reducible first | exact HB.out | apply below_alloc | apply pw_below_drewN | apply below_drew1) | exact HB.out)⟩⟩
              · replace c27 := Bool.eq_false_iff.mpr c27
                subst c27
                have H1 : (if 0 ≤ x19_2 then (if (bt a0 x19_2) = 37 then (if (wrap64 (x19_2 + 1)) < (a0.size : Int) then (if 0 ≤ (wrap64 (x19_2 + 1)) then (if (bt a0 (wrap64 (x19_2 + 1))) = 43 then (cloisterlaw06_UriPlus.l1 k2 a0 t154 t155 t157 t158 t160 t161 t163 t164 true (wrap64 (x19_2 + 1))) else (if (wrap64 (x19_2 + 2)) < (a0.size : Int) then (if 0 ≤ (wrap64 (x19_2 + 2)) then (cloisterlaw06_UriPlus.l1 k2 a0 t154 t155 t157 t158 t160 t161 t163 t164 ((bt a0 (wrap64 (x19_2 + 2))) == 43) (wrap64 (x19_2 + 1))) else (none)) else (cloisterlaw06_UriPlus.l1 k2 a0 t154 t155 t157 t158 t160 t161 t163 t164 false (wrap64 (x19_2 + 1))))) else (none)) else (if (wrap64 (x19_2 + 2)) < (a0.size : Int) then (if 0 ≤ (wrap64 (x19_2 + 2)) then (cloisterlaw06_UriPlus.l1 k2 a0 t154 t155 t157 t158 t160 t161 t163 t164 ((bt a0 (wrap64 (x19_2 + 2))) == 43) (wrap64 (x19_2 + 1))) else (none)) else (cloisterlaw06_UriPlus.l1 k2 a0 t154 t155 t157 t158 t160 t161 t163 t164 false (wrap64 (x19_2 + 1))))) else (cloisterlaw06_UriPlus.l1 k2 a0 t154 t155 t157 t158 t160 t161 t163 t164 false (wrap64 (x19_2 + 1)))) else (none)) = some r := by rw [if_neg (show ¬ (false = true) by decide)] at H; exact H
                clear H
                have H := H1
                clear H1
                by_cases c28 : 0 ≤ x19_2
                · rw [if_pos c28] at H
                  have c28b0 : decide (0 ≤ x19_2) = true := decide_eq_true c28
                  clear c28
                  by_cases c30 : (bt a0 x19_2) = 37
                  · rw [if_pos c30] at H
                    have c30b0 : ((bt a0 x19_2) == 37) = true := beq_iff_eq.mpr c30
                    have c30b1 : ((bt a0 x19_2) != 37) = false := bne_eq_false_iff_eq.mpr c30
                    clear c30
                    by_cases c31 : (wrap64 (x19_2 + 1)) < (a0.size : Int)
                    · rw [if_pos c31] at H
                      have c31b0 : decide ((wrap64 (x19_2 + 1)) < (a0.size : Int)) = true := decide_eq_true c31
                      clear c31
                      obtain ⟨ji32, hji32⟩ : ∃ j_ : Int, (wrap64 (x19_2 + 1)) = j_ := ⟨_, rfl⟩
                      replace H : (if 0 ≤ (ji32) then (if (bt a0 (ji32)) = 43 then (cloisterlaw06_UriPlus.l1 k2 a0 t154 t155 t157 t158 t160 t161 t163 t164 true ji32) else (if (wrap64 (x19_2 + 2)) < (a0.size : Int) then (if 0 ≤ (wrap64 (x19_2 + 2)) then (cloisterlaw06_UriPlus.l1 k2 a0 t154 t155 t157 t158 t160 t161 t163 t164 ((bt a0 (wrap64 (x19_2 + 2))) == 43) ji32) else (none)) else (cloisterlaw06_UriPlus.l1 k2 a0 t154 t155 t157 t158 t160 t161 t163 t164 false ji32))) else (none)) = some r := by first | (rw [hji32] at H; exact H) | (simp only [hji32] at H ⊢; exact H)
                      (try rw [hji32] at c31b0)
                      have hji32w : (IntKind.i64.wrap (x19_2 + 1)) = ji32 := (i64_w _).trans hji32
                      by_cases c33 : 0 ≤ (ji32)
                      · rw [if_pos c33] at H
                        have c33b0 : decide (0 ≤ (ji32)) = true := decide_eq_true c33
                        clear c33
                        by_cases c35 : (bt a0 (ji32)) = 43
                        · rw [if_pos c35] at H
                          have c35b0 : ((bt a0 (ji32)) == 43) = true := beq_iff_eq.mpr c35
                          have c35b1 : ((bt a0 (ji32)) != 43) = false := bne_eq_false_iff_eq.mpr c35
                          clear c35
                          have H' := Aside0.mk H
                          clear H
                          have p29 : 0 ≤ (x19_2 : Int) := of_decide_eq_true (by first | (with_reducible assumption) | assumption)
                          have q29 : x19_2 < (a0.size : Int) := of_decide_eq_true (by first | (with_reducible assumption) | assumption)
                          have hx29 := bt_at a0 x19_2
                          replace p29 := eq_true p29
                          replace q29 := eq_true q29
                          have p34 : 0 ≤ ((ji32) : Int) := of_decide_eq_true (by first | (with_reducible assumption) | assumption)
                          have q34 : (ji32) < (a0.size : Int) := of_decide_eq_true (by first | (with_reducible assumption) | assumption)
                          have hx34 := bt_at a0 (ji32)
                          replace p34 := eq_true p34
                          replace q34 := eq_true q34
                          go_wp2
                          go_roundg k2
                          case measure => have := HK1.out; have := HK2.out; omega
                          case rel => exact ⟨(true), (ji32), (by first | rfl | (simp; done) | (simp [*]; done)), (by first | rfl | (simp; done) | (simp only [← hji32] <;> (first | rfl | simp)) | (simp [*]; done)), H', ⟨by have := HK1.out; have := HK2.out; omega⟩, ⟨by repeat (first | (with_reducible first | exact HB.out | apply below_alloc | apply pw_below_drewN | apply below_drew1) | exact HB.out)⟩⟩
                        · rw [if_neg c35] at H
                          have c35b0 : ((bt a0 (ji32)) == 43) = false := beq_eq_false_iff_ne.mpr c35
                          have c35b1 : ((bt a0 (ji32)) != 43) = true := bne_iff_ne.mpr c35
                          by_cases c36 : (wrap64 (x19_2 + 2)) < (a0.size : Int)
                          · rw [if_pos c36] at H
                            have c36b0 : decide ((wrap64 (x19_2 + 2)) < (a0.size : Int)) = true := decide_eq_true c36
                            clear c36
                            obtain ⟨ji37, hji37⟩ : ∃ j_ : Int, (wrap64 (x19_2 + 2)) = j_ := ⟨_, rfl⟩
                            replace H : (if 0 ≤ (ji37) then (cloisterlaw06_UriPlus.l1 k2 a0 t154 t155 t157 t158 t160 t161 t163 t164 ((bt a0 (ji37)) == 43) ji32) else (none)) = some r := by first | (rw [hji37] at H; exact H) | (simp only [hji37] at H ⊢; exact H)
                            (try rw [hji37] at c36b0)
                            have hji37w : (IntKind.i64.wrap (x19_2 + 2)) = ji37 := (i64_w _).trans hji37
                            by_cases c38 : 0 ≤ (ji37)
                            · rw [if_pos c38] at H
                              have c38b0 : decide (0 ≤ (ji37)) = true := decide_eq_true c38
                              clear c38
                              have H' := Aside0.mk H
                              clear H
                              have p29 : 0 ≤ (x19_2 : Int) := of_decide_eq_true (by first | (with_reducible assumption) | assumption)
                              have q29 : x19_2 < (a0.size : Int) := of_decide_eq_true (by first | (with_reducible assumption) | assumption)
                              have hx29 := bt_at a0 x19_2
                              replace p29 := eq_true p29
                              replace q29 := eq_true q29
                              have p34 : 0 ≤ ((ji32) : Int) := of_decide_eq_true (by first | (with_reducible assumption) | assumption)
                              have q34 : (ji32) < (a0.size : Int) := of_decide_eq_true (by first | (with_reducible assumption) | assumption)
                              have hx34 := bt_at a0 (ji32)
                              replace p34 := eq_true p34
                              replace q34 := eq_true q34
                              have p39 : 0 ≤ ((ji37) : Int) := of_decide_eq_true (by first | (with_reducible assumption) | assumption)
                              have q39 : (ji37) < (a0.size : Int) := of_decide_eq_true (by first | (with_reducible assumption) | assumption)
                              have hx39 := bt_at a0 (ji37)
                              replace p39 := eq_true p39
                              replace q39 := eq_true q39
                              go_wp2
                              go_roundg k2
                              case measure => have := HK1.out; have := HK2.out; omega
                              case rel => exact ⟨(((bt a0 (ji37)) == 43)), (ji32), (by first | rfl | (simp; done) | (simp only [← hji37] <;> (first | rfl | simp)) | (simp [*]; done)), (by first | rfl | (simp; done) | (simp only [← hji32] <;> (first | rfl | simp)) | (simp [*]; done)), H', ⟨by have := HK1.out; have := HK2.out; omega⟩, ⟨by repeat (first | (with_reducible first | exact HB.out | apply below_alloc | apply pw_below_drewN | apply below_drew1) | exact HB.out)⟩⟩
                            · rw [if_neg c38] at H
                              exact absurd H (by simp)
                          · rw [if_neg c36] at H
                            have c36b0 : decide ((wrap64 (x19_2 + 2)) < (a0.size : Int)) = false := decide_eq_false c36
                            clear c36
                            have H' := Aside0.mk H
                            clear H
                            have p29 : 0 ≤ (x19_2 : Int) := of_decide_eq_true (by first | (with_reducible assumption) | assumption)
                            have q29 : x19_2 < (a0.size : Int) := of_decide_eq_true (by first | (with_reducible assumption) | assumption)
                            have hx29 := bt_at a0 x19_2
                            replace p29 := eq_true p29
                            replace q29 := eq_true q29
                            have p34 : 0 ≤ ((ji32) : Int) := of_decide_eq_true (by first | (with_reducible assumption) | assumption)
                            have q34 : (ji32) < (a0.size : Int) := of_decide_eq_true (by first | (with_reducible assumption) | assumption)
                            have hx34 := bt_at a0 (ji32)
                            replace p34 := eq_true p34
                            replace q34 := eq_true q34
                            go_wp2
                            go_roundg k2
                            case measure => have := HK1.out; have := HK2.out; omega
                            case rel => exact ⟨(false), (ji32), (by first | rfl | (simp; done) | (simp [*]; done)), (by first | rfl | (simp; done) | (simp only [← hji32] <;> (first | rfl | simp)) | (simp [*]; done)), H', ⟨by have := HK1.out; have := HK2.out; omega⟩, ⟨by repeat (first | (with_reducible first | exact HB.out | apply below_alloc | apply pw_below_drewN | apply below_drew1) | exact HB.out)⟩⟩
                      · rw [if_neg c33] at H
                        exact absurd H (by simp)
                    · rw [if_neg c31] at H
                      have c31b0 : decide ((wrap64 (x19_2 + 1)) < (a0.size : Int)) = false := decide_eq_false c31
                      clear c31
                      by_cases c40 : (wrap64 (x19_2 + 2)) < (a0.size : Int)
                      · rw [if_pos c40] at H
                        have c40b0 : decide ((wrap64 (x19_2 + 2)) < (a0.size : Int)) = true := decide_eq_true c40
                        clear c40
                        obtain ⟨ji41, hji41⟩ : ∃ j_ : Int, (wrap64 (x19_2 + 2)) = j_ := ⟨_, rfl⟩
                        replace H : (if 0 ≤ (ji41) then (cloisterlaw06_UriPlus.l1 k2 a0 t154 t155 t157 t158 t160 t161 t163 t164 ((bt a0 (ji41)) == 43) (wrap64 (x19_2 + 1))) else (none)) = some r := by first | (rw [hji41] at H; exact H) | (simp only [hji41] at H ⊢; exact H)
                        (try rw [hji41] at c40b0)
                        have hji41w : (IntKind.i64.wrap (x19_2 + 2)) = ji41 := (i64_w _).trans hji41
                        by_cases c42 : 0 ≤ (ji41)
                        · rw [if_pos c42] at H
                          have c42b0 : decide (0 ≤ (ji41)) = true := decide_eq_true c42
                          clear c42
                          have H' := Aside0.mk H
                          clear H
                          have p29 : 0 ≤ (x19_2 : Int) := of_decide_eq_true (by first | (with_reducible assumption) | assumption)
                          have q29 : x19_2 < (a0.size : Int) := of_decide_eq_true (by first | (with_reducible assumption) | assumption)
                          have hx29 := bt_at a0 x19_2
                          replace p29 := eq_true p29
                          replace q29 := eq_true q29
                          have p43 : 0 ≤ ((ji41) : Int) := of_decide_eq_true (by first | (with_reducible assumption) | assumption)
                          have q43 : (ji41) < (a0.size : Int) := of_decide_eq_true (by first | (with_reducible assumption) | assumption)
                          have hx43 := bt_at a0 (ji41)
                          replace p43 := eq_true p43
                          replace q43 := eq_true q43
                          go_wp2
                          go_roundg k2
                          case measure => have := HK1.out; have := HK2.out; omega
                          case rel => exact ⟨(((bt a0 (ji41)) == 43)), (wrap64 (x19_2 + 1)), (by first | rfl | (simp; done) | (simp only [← hji41] <;> (first | rfl | simp)) | (simp [*]; done)), (by first | rfl | (simp; done) | (simp [*]; done)), H', ⟨by have := HK1.out; have := HK2.out; omega⟩, ⟨by repeat (first | (with_reducible first | exact HB.out | apply below_alloc | apply pw_below_drewN | apply below_drew1) | exact HB.out)⟩⟩
                        · rw [if_neg c42] at H
                          exact absurd H (by simp)
                      · rw [if_neg c40] at H
                        have c40b0 : decide ((wrap64 (x19_2 + 2)) < (a0.size : Int)) = false := decide_eq_false c40
                        clear c40
                        have H' := Aside0.mk H
                        clear H
                        have p29 : 0 ≤ (x19_2 : Int) := of_decide_eq_true (by first | (with_reducible assumption) | assumption)
                        have q29 : x19_2 < (a0.size : Int) := of_decide_eq_true (by first | (with_reducible assumption) | assumption)
                        have hx29 := bt_at a0 x19_2
                        replace p29 := eq_true p29
                        replace q29 := eq_true q29
                        go_wp2
                        go_roundg k2
                        case measure => have := HK1.out; have := HK2.out; omega
                        case rel => exact ⟨(false), (wrap64 (x19_2 + 1)), (by first | rfl | (simp; done) | (simp [*]; done)), (by first | rfl | (simp; done) | (simp [*]; done)), H', ⟨by have := HK1.out; have := HK2.out; omega⟩, ⟨by repeat (first | (with_reducible first | exact HB.out | apply below_alloc | apply pw_below_drewN | apply below_drew1) | exact HB.out)⟩⟩
                  · rw [if_neg c30] at H
                    have c30b0 : ((bt a0 x19_2) == 37) = false := beq_eq_false_iff_ne.mpr c30
                    have c30b1 : ((bt a0 x19_2) != 37) = true := bne_iff_ne.mpr c30
                    have H' := Aside0.mk H
                    clear H
                    have p29 : 0 ≤ (x19_2 : Int) := of_decide_eq_true (by first | (with_reducible assumption) | assumption)
                    have q29 : x19_2 < (a0.size : Int) := of_decide_eq_true (by first | (with_reducible assumption) | assumption)
                    have hx29 := bt_at a0 x19_2
                    replace p29 := eq_true p29
                    replace q29 := eq_true q29
                    go_wp2
                    go_roundg k2
                    case measure => have := HK1.out; have := HK2.out; omega
                    case rel => exact ⟨(false), (wrap64 (x19_2 + 1)), (by first | rfl | (simp; done) | (simp [*]; done)), (by first | rfl | (simp; done) | (simp [*]; done)), H', ⟨by have := HK1.out; have := HK2.out; omega⟩, ⟨by repeat (first | (with_reducible first | exact HB.out | apply below_alloc | apply pw_below_drewN | apply below_drew1) | exact HB.out)⟩⟩
                · rw [if_neg c28] at H
                  exact absurd H (by simp)
            · rw [if_neg c26] at H
              have c26b0 : decide (x19_2 < (a0.size : Int)) = false := decide_eq_false c26
              clear c26
              by_cases c44 : x18_2 = true
              · subst c44
                have H1 : (if t155 = 60 then (if t161 = 60 then ((cloisterlaw06_awake.f).bind fun t166 => (if t166 = true then (some true) else (if t154.toList = t157.toList then (if t155 = t158 then (if t160.toList = t163.toList then (if t161 = t164 then (if t155 = t161 then ((cloisterlaw06_awake.f).bind fun t167 => (some t167)) else (some false)) else (some false)) else (some false)) else (some false)) else (some false)))) else (if t154.toList = t157.toList then (if t155 = t158 then (if t160.toList = t163.toList then (if t161 = t164 then (if t155 = t161 then ((cloisterlaw06_awake.f).bind fun t168 => (some t168)) else (some false)) else (some false)) else (some false)) else (some false)) else (some false))) else (if t154.toList = t157.toList then (if t155 = t158 then (if t160.toList = t163.toList then (if t161 = t164 then (if t155 = t161 then ((cloisterlaw06_awake.f).bind fun t169 => (some t169)) else (some false)) else (some false)) else (some false)) else (some false)) else (some false))) = some r := by rw [if_pos rfl] at H; exact H
                clear H
                have H := H1
                clear H1
                by_cases c45 : t155 = 60
                · rw [if_pos c45] at H
                  have c45b0 : (t155 == 60) = true := beq_iff_eq.mpr c45
                  have c45b1 : (t155 != 60) = false := bne_eq_false_iff_eq.mpr c45
                  clear c45
                  by_cases c46 : t161 = 60
                  · rw [if_pos c46] at H
                    have c46b0 : (t161 == 60) = true := beq_iff_eq.mpr c46
                    have c46b1 : (t161 != 60) = false := bne_eq_false_iff_eq.mpr c46
                    clear c46
                    replace H := Option.bind_eq_some_iff.mp H
                    obtain ⟨t166, A470, H⟩ := H
                    replace H : (if t166 = true then (some true) else (if t154.toList = t157.toList then (if t155 = t158 then (if t160.toList = t163.toList then (if t161 = t164 then (if t155 = t161 then ((cloisterlaw06_awake.f).bind fun t167 => (some t167)) else (some false)) else (some false)) else (some false)) else (some false)) else (some false))) = some r := H
                    have A47 := Aside0.mk A470
                    clear A470
                    by_cases c48 : t166 = true
                    · subst c48
                      have H1 : (some true) = some r := by rw [if_pos rfl] at H; exact H
                      clear H
                      have H := H1
                      clear H1
                      obtain rfl := Option.some.inj H
                      go_wp2_with (first | (go_at_call 12; (with_reducible refine (cloisterlaw06_awake.calls  true _ A47.out).mono ?_); rintro e w49 ⟨rfl, hb⟩; have n0_ := Aside0.mk (below_step (by repeat (first | (with_reducible first | exact HB.out | apply below_alloc | apply pw_below_drewN | apply below_drew1) | exact HB.out)) hb); clear HB; have HB := n0_; clear n0_; (try clear hb); (try clear hb2); (try clear hk); (try clear hi)))
                      go_ret
                      exact ⟨by first | rfl | (simp [errW_none, errW_some] <;> rfl) | (simp [*, errW_none, errW_some] <;> rfl), by repeat (first | (with_reducible first | exact HB.out | apply below_alloc | apply pw_below_drewN | apply below_drew1) | exact HB.out)⟩
                    · replace c48 := Bool.eq_false_iff.mpr c48
                      subst c48
                      have H1 : (if t154.toList = t157.toList then (if t155 = t158 then (if t160.toList = t163.toList then (if t161 = t164 then (if t155 = t161 then ((cloisterlaw06_awake.f).bind fun t167 => (some t167)) else (some false)) else (some false)) else (some false)) else (some false)) else (some false)) = some r := by rw [if_neg (show ¬ (false = true) by decide)] at H; exact H
                      clear H
                      have H := H1
                      clear H1
                      by_cases c50 : t154.toList = t157.toList
                      · rw [if_pos c50] at H
                        have c50b0 : (t154.toList == t157.toList) = true := beq_iff_eq.mpr c50
                        have c50b1 : (t154.toList != t157.toList) = false := bne_eq_false_iff_eq.mpr c50
                        clear c50
                        by_cases c51 : t155 = t158
                        · rw [if_pos c51] at H
                          have c51b0 : (t155 == t158) = true := beq_iff_eq.mpr c51
                          have c51b1 : (t155 != t158) = false := bne_eq_false_iff_eq.mpr c51
                          clear c51
                          by_cases c52 : t160.toList = t163.toList
                          · rw [if_pos c52] at H
                            have c52b0 : (t160.toList == t163.toList) = true := beq_iff_eq.mpr c52
                            have c52b1 : (t160.toList != t163.toList) = false := bne_eq_false_iff_eq.mpr c52
                            clear c52
                            by_cases c53 : t161 = t164
                            · rw [if_pos c53] at H
                              have c53b0 : (t161 == t164) = true := beq_iff_eq.mpr c53
                              have c53b1 : (t161 != t164) = false := bne_eq_false_iff_eq.mpr c53
                              clear c53
                              by_cases c54 : t155 = t161
                              · rw [if_pos c54] at H
                                have c54b0 : (t155 == t161) = true := beq_iff_eq.mpr c54
                                have c54b1 : (t155 != t161) = false := bne_eq_false_iff_eq.mpr c54
                                clear c54
                                replace H := Option.bind_eq_some_iff.mp H
                                obtain ⟨t167, A550, H⟩ := H
                                replace H : (some t167) = some r := H
                                have A55 := Aside0.mk A550
                                clear A550
                                obtain rfl := Option.some.inj H
                                go_wp2_with (first | (go_at_call 12; (with_reducible refine (cloisterlaw06_awake.calls  false _ A47.out).mono ?_); rintro e w56 ⟨rfl, hb⟩; have n0_ := Aside0.mk (below_step (by repeat (first | (with_reducible first | exact HB.out | apply below_alloc | apply pw_below_drewN | apply below_drew1) | exact HB.out)) hb); clear HB; have HB := n0_; clear n0_; (try clear hb); (try clear hb2); (try clear hk); (try clear hi)) | (go_at_call 12; (with_reducible refine (cloisterlaw06_awake.calls  t167 _ A55.out).mono ?_); rintro e w57 ⟨rfl, hb⟩; have n0_ := Aside0.mk (below_step (by repeat (first | (with_reducible first | exact HB.out | apply below_alloc | apply pw_below_drewN | apply below_drew1) | exact HB.out)) hb); clear HB; have HB := n0_; clear n0_; (try clear hb); (try clear hb2); (try clear hk); (try clear hi)))
                                go_ret
                                exact ⟨by first | rfl | (rw [← Option.some.inj (A47.out.symm.trans A55.out)]; first | done | rfl) | (simp [errW_none, errW_some] <;> rfl) | (simp [*, errW_none, errW_some] <;> rfl), by repeat (first | (with_reducible first | exact HB.out | apply below_alloc | apply pw_below_drewN | apply below_drew1) | exact HB.out)⟩
                              · rw [if_neg c54] at H
                                have c54b0 : (t155 == t161) = false := beq_eq_false_iff_ne.mpr c54
                                have c54b1 : (t155 != t161) = true := bne_iff_ne.mpr c54
                                obtain rfl := Option.some.inj H
                                go_wp2_with (first | (go_at_call 12; (with_reducible refine (cloisterlaw06_awake.calls  false _ A47.out).mono ?_); rintro e w58 ⟨rfl, hb⟩; have n0_ := Aside0.mk (below_step (by repeat (first | (with_reducible first | exact HB.out | apply below_alloc | apply pw_below_drewN | apply below_drew1) | exact HB.out)) hb); clear HB; have HB := n0_; clear n0_; (try clear hb); (try clear hb2); (try clear hk); (try clear hi)))
                                go_ret
                                exact ⟨by first | rfl | (simp [errW_none, errW_some] <;> rfl) | (simp [*, errW_none, errW_some] <;> rfl), by repeat (first | (with_reducible first | exact HB.out | apply below_alloc | apply pw_below_drewN | apply below_drew1) | exact HB.out)⟩
                            · rw [if_neg c53] at H
                              have c53b0 : (t161 == t164) = false := beq_eq_false_iff_ne.mpr c53
                              have c53b1 : (t161 != t164) = true := bne_iff_ne.mpr c53
                              obtain rfl := Option.some.inj H
                              go_wp2_with (first | (go_at_call 12; (with_reducible refine (cloisterlaw06_awake.calls  false _ A47.out).mono ?_); rintro e w59 ⟨rfl, hb⟩; have n0_ := Aside0.mk (below_step (by repeat (first | (with_reducible first | exact HB.out | apply below_alloc | apply pw_below_drewN | apply below_drew1) | exact HB.out)) hb); clear HB; have HB := n0_; clear n0_; (try clear hb); (try clear hb2); (try clear hk); (try clear hi)))
                              go_ret
                              exact ⟨by first | rfl | (simp [errW_none, errW_some] <;> rfl) | (simp [*, errW_none, errW_some] <;> rfl), by repeat (first | (with_reducible first | exact HB.out | apply below_alloc | apply pw_below_drewN | apply below_drew1) | exact HB.out)⟩
                          · rw [if_neg c52] at H
                            have c52b0 : (t160.toList == t163.toList) = false := beq_eq_false_iff_ne.mpr c52
                            have c52b1 : (t160.toList != t163.toList) = true := bne_iff_ne.mpr c52
                            obtain rfl := Option.some.inj H
                            go_wp2_with (first | (go_at_call 12; (with_reducible refine (cloisterlaw06_awake.calls  false _ A47.out).mono ?_); rintro e w60 ⟨rfl, hb⟩; have n0_ := Aside0.mk (below_step (by repeat (first | (with_reducible first | exact HB.out | apply below_alloc | apply pw_below_drewN | apply below_drew1) | exact HB.out)) hb); clear HB; have HB := n0_; clear n0_; (try clear hb); (try clear hb2); (try clear hk); (try clear hi)))
                            go_ret
                            exact ⟨by first | rfl | (simp [errW_none, errW_some] <;> rfl) | (simp [*, errW_none, errW_some] <;> rfl), by repeat (first | (with_reducible first | exact HB.out | apply below_alloc | apply pw_below_drewN | apply below_drew1) | exact HB.out)⟩
                        · rw [if_neg c51] at H
                          have c51b0 : (t155 == t158) = false := beq_eq_false_iff_ne.mpr c51
                          have c51b1 : (t155 != t158) = true := bne_iff_ne.mpr c51
                          obtain rfl := Option.some.inj H
                          go_wp2_with (first | (go_at_call 12; (with_reducible refine (cloisterlaw06_awake.calls  false _ A47.out).mono ?_); rintro e w61 ⟨rfl, hb⟩; have n0_ := Aside0.mk (below_step (by repeat (first | (with_reducible first | exact HB.out | apply below_alloc | apply pw_below_drewN | apply below_drew1) | exact HB.out)) hb); clear HB; have HB := n0_; clear n0_; (try clear hb); (try clear hb2); (try clear hk); (try clear hi)))
                          go_ret
                          exact ⟨by first | rfl | (simp [errW_none, errW_some] <;> rfl) | (simp [*, errW_none, errW_some] <;> rfl), by repeat (first | (with_reducible first | exact HB.out | apply below_alloc | apply pw_below_drewN | apply below_drew1) | exact HB.out)⟩
                      · rw [if_neg c50] at H
                        have c50b0 : (t154.toList == t157.toList) = false := beq_eq_false_iff_ne.mpr c50
                        have c50b1 : (t154.toList != t157.toList) = true := bne_iff_ne.mpr c50
                        obtain rfl := Option.some.inj H
                        go_wp2_with (first | (go_at_call 12; (with_reducible refine (cloisterlaw06_awake.calls  false _ A47.out).mono ?_); rintro e w62 ⟨rfl, hb⟩; have n0_ := Aside0.mk (below_step (by repeat (first | (with_reducible first | exact HB.out | apply below_alloc | apply pw_below_drewN | apply below_drew1) | exact HB.out)) hb); clear HB; have HB := n0_; clear n0_; (try clear hb); (try clear hb2); (try clear hk); (try clear hi)))
                        go_ret
                        exact ⟨by first | rfl | (simp [errW_none, errW_some] <;> rfl) | (simp [*, errW_none, errW_some] <;> rfl), by repeat (first | (with_reducible first | exact HB.out | apply below_alloc | apply pw_below_drewN | apply below_drew1) | exact HB.out)⟩
                  · rw [if_neg c46] at H
                    have c46b0 : (t161 == 60) = false := beq_eq_false_iff_ne.mpr c46
                    have c46b1 : (t161 != 60) = true := bne_iff_ne.mpr c46
                    by_cases c63 : t154.toList = t157.toList
                    · rw [if_pos c63] at H
                      have c63b0 : (t154.toList == t157.toList) = true := beq_iff_eq.mpr c63
                      have c63b1 : (t154.toList != t157.toList) = false := bne_eq_false_iff_eq.mpr c63
                      clear c63
                      by_cases c64 : t155 = t158
                      · rw [if_pos c64] at H
                        have c64b0 : (t155 == t158) = true := beq_iff_eq.mpr c64
                        have c64b1 : (t155 != t158) = false := bne_eq_false_iff_eq.mpr c64
                        clear c64
                        by_cases c65 : t160.toList = t163.toList
                        · rw [if_pos c65] at H
                          have c65b0 : (t160.toList == t163.toList) = true := beq_iff_eq.mpr c65
                          have c65b1 : (t160.toList != t163.toList) = false := bne_eq_false_iff_eq.mpr c65
                          clear c65
                          by_cases c66 : t161 = t164
                          · rw [if_pos c66] at H
                            have c66b0 : (t161 == t164) = true := beq_iff_eq.mpr c66
                            have c66b1 : (t161 != t164) = false := bne_eq_false_iff_eq.mpr c66
                            clear c66
                            by_cases c67 : t155 = t161
                            · rw [if_pos c67] at H
                              have c67b0 : (t155 == t161) = true := beq_iff_eq.mpr c67
                              have c67b1 : (t155 != t161) = false := bne_eq_false_iff_eq.mpr c67
                              clear c67
                              replace H := Option.bind_eq_some_iff.mp H
                              obtain ⟨t168, A680, H⟩ := H
                              replace H : (some t168) = some r := H
                              have A68 := Aside0.mk A680
                              clear A680
                              obtain rfl := Option.some.inj H
                              go_wp2_with (first | (go_at_call 12; (with_reducible refine (cloisterlaw06_awake.calls  t168 _ A68.out).mono ?_); rintro e w69 ⟨rfl, hb⟩; have n0_ := Aside0.mk (below_step (by repeat (first | (with_reducible first | exact HB.out | apply below_alloc | apply pw_below_drewN | apply below_drew1) | exact HB.out)) hb); clear HB; have HB := n0_; clear n0_; (try clear hb); (try clear hb2); (try clear hk); (try clear hi)))
                              go_ret
                              exact ⟨by first | rfl | (simp [errW_none, errW_some] <;> rfl) | (simp [*, errW_none, errW_some] <;> rfl), by repeat (first | (with_reducible first | exact HB.out | apply below_alloc | apply pw_below_drewN | apply below_drew1) | exact HB.out)⟩
                            · rw [if_neg c67] at H
                              have c67b0 : (t155 == t161) = false := beq_eq_false_iff_ne.mpr c67
                              have c67b1 : (t155 != t161) = true := bne_iff_ne.mpr c67
                              obtain rfl := Option.some.inj H
                              go_wp2
                              go_ret
                              exact ⟨by first | rfl | (simp [errW_none, errW_some] <;> rfl) | (simp [*, errW_none, errW_some] <;> rfl), by repeat (first | (with_reducible first | exact HB.out | apply below_alloc | apply pw_below_drewN | apply below_drew1) | exact HB.out)⟩
                          · rw [if_neg c66] at H
                            have c66b0 : (t161 == t164) = false := beq_eq_false_iff_ne.mpr c66
                            have c66b1 : (t161 != t164) = true := bne_iff_ne.mpr c66
                            obtain rfl := Option.some.inj H
                            go_wp2
                            go_ret
                            exact ⟨by first | rfl | (simp [errW_none, errW_some] <;> rfl) | (simp [*, errW_none, errW_some] <;> rfl), by repeat (first | (with_reducible first | exact HB.out | apply below_alloc | apply pw_below_drewN | apply below_drew1) | exact HB.out)⟩
                        · rw [if_neg c65] at H
                          have c65b0 : (t160.toList == t163.toList) = false := beq_eq_false_iff_ne.mpr c65
                          have c65b1 : (t160.toList != t163.toList) = true := bne_iff_ne.mpr c65
                          obtain rfl := Option.some.inj H
                          go_wp2
                          go_ret
                          exact ⟨by first | rfl | (simp [errW_none, errW_some] <;> rfl) | (simp [*, errW_none, errW_some] <;> rfl), by repeat (first | (with_reducible first | exact HB.out | apply below_alloc | apply pw_below_drewN | apply below_drew1) | exact HB.out)⟩
                      · rw [if_neg c64] at H
                        have c64b0 : (t155 == t158) = false := beq_eq_false_iff_ne.mpr c64
                        have c64b1 : (t155 != t158) = true := bne_iff_ne.mpr c64
                        obtain rfl := Option.some.inj H
                        go_wp2
                        go_ret
                        exact ⟨by first | rfl | (simp [errW_none, errW_some] <;> rfl) | (simp [*, errW_none, errW_some] <;> rfl), by repeat (first | (with_reducible first | exact HB.out | apply below_alloc | apply pw_below_drewN | apply below_drew1) | exact HB.out)⟩
                    · rw [if_neg c63] at H
                      have c63b0 : (t154.toList == t157.toList) = false := beq_eq_false_iff_ne.mpr c63
                      have c63b1 : (t154.toList != t157.toList) = true := bne_iff_ne.mpr c63
                      obtain rfl := Option.some.inj H
                      go_wp2
                      go_ret
                      exact ⟨by first | rfl | (simp [errW_none, errW_some] <;> rfl) | (simp [*, errW_none, errW_some] <;> rfl), by repeat (first | (with_reducible first | exact HB.out | apply below_alloc | apply pw_below_drewN | apply below_drew1) | exact HB.out)⟩
                · rw [if_neg c45] at H
                  have c45b0 : (t155 == 60) = false := beq_eq_false_iff_ne.mpr c45
                  have c45b1 : (t155 != 60) = true := bne_iff_ne.mpr c45
                  by_cases c70 : t154.toList = t157.toList
                  · rw [if_pos c70] at H
                    have c70b0 : (t154.toList == t157.toList) = true := beq_iff_eq.mpr c70
                    have c70b1 : (t154.toList != t157.toList) = false := bne_eq_false_iff_eq.mpr c70
                    clear c70
                    by_cases c71 : t155 = t158
                    · rw [if_pos c71] at H
                      have c71b0 : (t155 == t158) = true := beq_iff_eq.mpr c71
                      have c71b1 : (t155 != t158) = false := bne_eq_false_iff_eq.mpr c71
                      clear c71
                      by_cases c72 : t160.toList = t163.toList
                      · rw [if_pos c72] at H
                        have c72b0 : (t160.toList == t163.toList) = true := beq_iff_eq.mpr c72
                        have c72b1 : (t160.toList != t163.toList) = false := bne_eq_false_iff_eq.mpr c72
                        clear c72
                        by_cases c73 : t161 = t164
                        · rw [if_pos c73] at H
                          have c73b0 : (t161 == t164) = true := beq_iff_eq.mpr c73
                          have c73b1 : (t161 != t164) = false := bne_eq_false_iff_eq.mpr c73
                          clear c73
                          by_cases c74 : t155 = t161
                          · rw [if_pos c74] at H
                            have c74b0 : (t155 == t161) = true := beq_iff_eq.mpr c74
                            have c74b1 : (t155 != t161) = false := bne_eq_false_iff_eq.mpr c74
                            clear c74
                            replace H := Option.bind_eq_some_iff.mp H
                            obtain ⟨t169, A750, H⟩ := H
                            replace H : (some t169) = some r := H
                            have A75 := Aside0.mk A750
                            clear A750
                            obtain rfl := Option.some.inj H
                            go_wp2_with (first | (go_at_call 12; (with_reducible refine (cloisterlaw06_awake.calls  t169 _ A75.out).mono ?_); rintro e w76 ⟨rfl, hb⟩; have n0_ := Aside0.mk (below_step (by repeat (first | (with_reducible first | exact HB.out | apply below_alloc | apply pw_below_drewN | apply below_drew1) | exact HB.out)) hb); clear HB; have HB := n0_; clear n0_; (try clear hb); (try clear hb2); (try clear hk); (try clear hi)))
                            go_ret
                            exact ⟨by first | rfl | (simp [errW_none, errW_some] <;> rfl) | (simp [*, errW_none, errW_some] <;> rfl), by repeat (first | (with_reducible first | exact HB.out | apply below_alloc | apply pw_below_drewN | apply below_drew1) | exact HB.out)⟩
                          · rw [if_neg c74] at H
                            have c74b0 : (t155 == t161) = false := beq_eq_false_iff_ne.mpr c74
                            have c74b1 : (t155 != t161) = true := bne_iff_ne.mpr c74
                            obtain rfl := Option.some.inj H
                            go_wp2
                            go_ret
                            exact ⟨by first | rfl | (simp [errW_none, errW_some] <;> rfl) | (simp [*, errW_none, errW_some] <;> rfl), by repeat (first | (with_reducible first | exact HB.out | apply below_alloc | apply pw_below_drewN | apply below_drew1) | exact HB.out)⟩
                        · rw [if_neg c73] at H
                          have c73b0 : (t161 == t164) = false := beq_eq_false_iff_ne.mpr c73
                          have c73b1 : (t161 != t164) = true := bne_iff_ne.mpr c73
                          obtain rfl := Option.some.inj H
                          go_wp2
                          go_ret
                          exact ⟨by first | rfl | (simp [errW_none, errW_some] <;> rfl) | (simp [*, errW_none, errW_some] <;> rfl), by repeat (first | (with_reducible first | exact HB.out | apply below_alloc | apply pw_below_drewN | apply below_drew1) | exact HB.out)⟩
                      · rw [if_neg c72] at H
                        have c72b0 : (t160.toList == t163.toList) = false := beq_eq_false_iff_ne.mpr c72
                        have c72b1 : (t160.toList != t163.toList) = true := bne_iff_ne.mpr c72
                        obtain rfl := Option.some.inj H
                        go_wp2
                        go_ret
                        exact ⟨by first | rfl | (simp [errW_none, errW_some] <;> rfl) | (simp [*, errW_none, errW_some] <;> rfl), by repeat (first | (with_reducible first | exact HB.out | apply below_alloc | apply pw_below_drewN | apply below_drew1) | exact HB.out)⟩
                    · rw [if_neg c71] at H
                      have c71b0 : (t155 == t158) = false := beq_eq_false_iff_ne.mpr c71
                      have c71b1 : (t155 != t158) = true := bne_iff_ne.mpr c71
                      obtain rfl := Option.some.inj H
                      go_wp2
                      go_ret
                      exact ⟨by first | rfl | (simp [errW_none, errW_some] <;> rfl) | (simp [*, errW_none, errW_some] <;> rfl), by repeat (first | (with_reducible first | exact HB.out | apply below_alloc | apply pw_below_drewN | apply below_drew1) | exact HB.out)⟩
                  · rw [if_neg c70] at H
                    have c70b0 : (t154.toList == t157.toList) = false := beq_eq_false_iff_ne.mpr c70
                    have c70b1 : (t154.toList != t157.toList) = true := bne_iff_ne.mpr c70
                    obtain rfl := Option.some.inj H
                    go_wp2
                    go_ret
                    exact ⟨by first | rfl | (simp [errW_none, errW_some] <;> rfl) | (simp [*, errW_none, errW_some] <;> rfl), by repeat (first | (with_reducible first | exact HB.out | apply below_alloc | apply pw_below_drewN | apply below_drew1) | exact HB.out)⟩
              · replace c44 := Bool.eq_false_iff.mpr c44
                subst c44
                have H1 : (if t154.toList = t157.toList then (if t155 = t158 then (if t160.toList = t163.toList then (if t161 = t164 then (if t155 = t161 then ((cloisterlaw06_awake.f).bind fun t170 => (some t170)) else (some false)) else (some false)) else (some false)) else (some false)) else (some false)) = some r := by rw [if_neg (show ¬ (false = true) by decide)] at H; exact H
                clear H
                have H := H1
                clear H1
                by_cases c77 : t154.toList = t157.toList
                · rw [if_pos c77] at H
                  have c77b0 : (t154.toList == t157.toList) = true := beq_iff_eq.mpr c77
                  have c77b1 : (t154.toList != t157.toList) = false := bne_eq_false_iff_eq.mpr c77
                  clear c77
                  by_cases c78 : t155 = t158
                  · rw [if_pos c78] at H
                    have c78b0 : (t155 == t158) = true := beq_iff_eq.mpr c78
                    have c78b1 : (t155 != t158) = false := bne_eq_false_iff_eq.mpr c78
                    clear c78
                    by_cases c79 : t160.toList = t163.toList
                    · rw [if_pos c79] at H
                      have c79b0 : (t160.toList == t163.toList) = true := beq_iff_eq.mpr c79
                      have c79b1 : (t160.toList != t163.toList) = false := bne_eq_false_iff_eq.mpr c79
                      clear c79
                      by_cases c80 : t161 = t164
                      · rw [if_pos c80] at H
                        have c80b0 : (t161 == t164) = true := beq_iff_eq.mpr c80
                        have c80b1 : (t161 != t164) = false := bne_eq_false_iff_eq.mpr c80
                        clear c80
                        by_cases c81 : t155 = t161
                        · rw [if_pos c81] at H
                          have c81b0 : (t155 == t161) = true := beq_iff_eq.mpr c81
                          have c81b1 : (t155 != t161) = false := bne_eq_false_iff_eq.mpr c81
                          clear c81
                          replace H := Option.bind_eq_some_iff.mp H
                          obtain ⟨t170, A820, H⟩ := H
                          replace H : (some t170) = some r := H
                          have A82 := Aside0.mk A820
                          clear A820
                          obtain rfl := Option.some.inj H
                          go_wp2_with (first | (go_at_call 12; (with_reducible refine (cloisterlaw06_awake.calls  t170 _ A82.out).mono ?_); rintro e w83 ⟨rfl, hb⟩; have n0_ := Aside0.mk (below_step (by repeat (first | (with_reducible first | exact HB.out | apply below_alloc | apply pw_below_drewN | apply below_drew1) | exact HB.out)) hb); clear HB; have HB := n0_; clear n0_; (try clear hb); (try clear hb2); (try clear hk); (try clear hi)))
                          go_ret
                          exact ⟨by first | rfl | (simp [errW_none, errW_some] <;> rfl) | (simp [*, errW_none, errW_some] <;> rfl), by repeat (first | (with_reducible first | exact HB.out | apply below_alloc | apply pw_below_drewN | apply below_drew1) | exact HB.out)⟩
                        · rw [if_neg c81] at H
                          have c81b0 : (t155 == t161) = false := beq_eq_false_iff_ne.mpr c81
                          have c81b1 : (t155 != t161) = true := bne_iff_ne.mpr c81
                          obtain rfl := Option.some.inj H
                          go_wp2
                          go_ret
                          exact ⟨by first | rfl | (simp [errW_none, errW_some] <;> rfl) | (simp [*, errW_none, errW_some] <;> rfl), by repeat (first | (with_reducible first | exact HB.out | apply below_alloc | apply pw_below_drewN | apply below_drew1) | exact HB.out)⟩
                      · rw [if_neg c80] at H
                        have c80b0 : (t161 == t164) = false := beq_eq_false_iff_ne.mpr c80
                        have c80b1 : (t161 != t164) = true := bne_iff_ne.mpr c80
                        obtain rfl := Option.some.inj H
                        go_wp2
                        go_ret
                        exact ⟨by first | rfl | (simp [errW_none, errW_some] <;> rfl) | (simp [*, errW_none, errW_some] <;> rfl), by repeat (first | (with_reducible first | exact HB.out | apply below_alloc | apply pw_below_drewN | apply below_drew1) | exact HB.out)⟩
                    · rw [if_neg c79] at H
                      have c79b0 : (t160.toList == t163.toList) = false := beq_eq_false_iff_ne.mpr c79
                      have c79b1 : (t160.toList != t163.toList) = true := bne_iff_ne.mpr c79
                      obtain rfl := Option.some.inj H
                      go_wp2
                      go_ret
                      exact ⟨by first | rfl | (simp [errW_none, errW_some] <;> rfl) | (simp [*, errW_none, errW_some] <;> rfl), by repeat (first | (with_reducible first | exact HB.out | apply below_alloc | apply pw_below_drewN | apply below_drew1) | exact HB.out)⟩
                  · rw [if_neg c78] at H
                    have c78b0 : (t155 == t158) = false := beq_eq_false_iff_ne.mpr c78
                    have c78b1 : (t155 != t158) = true := bne_iff_ne.mpr c78
                    obtain rfl := Option.some.inj H
                    go_wp2
                    go_ret
                    exact ⟨by first | rfl | (simp [errW_none, errW_some] <;> rfl) | (simp [*, errW_none, errW_some] <;> rfl), by repeat (first | (with_reducible first | exact HB.out | apply below_alloc | apply pw_below_drewN | apply below_drew1) | exact HB.out)⟩
                · rw [if_neg c77] at H
                  have c77b0 : (t154.toList == t157.toList) = false := beq_eq_false_iff_ne.mpr c77
                  have c77b1 : (t154.toList != t157.toList) = true := bne_iff_ne.mpr c77
                  obtain rfl := Option.some.inj H
                  go_wp2
                  go_ret
                  exact ⟨by first | rfl | (simp [errW_none, errW_some] <;> rfl) | (simp [*, errW_none, errW_some] <;> rfl), by repeat (first | (with_reducible first | exact HB.out | apply below_alloc | apply pw_below_drewN | apply below_drew1) | exact HB.out)⟩

/-- THE ONE PURE STATEMENT of cloisterlaw06_UriPlus: yours. -/
def cloisterlaw06_UriPlus.Pure : Prop := ∀ (a0 : ByteArray), a0.size ≤ 140737488351232 → ∃ k, cloisterlaw06_UriPlus.f k a0 = some true
theorem cloisterlaw06_UriPlus.walk (P : cloisterlaw06_UriPlus.Pure) (a0 : ByteArray) (w : World) (w0 : a0.size ≤ 140737488351232) :
    Calls Try.prog 5 #[.string a0] w fun e w' => e = .returned (.bool true) ∧ Below w.heap.size w w' := by
  obtain ⟨k, h⟩ := P a0 w0
  refine (cloisterlaw06_UriPlus.calls k a0 true w h).mono ?_
  rintro e w' ⟨rfl, hd⟩
  exact ⟨rfl, hd⟩

end Go.Proofs.Ytkaacdfikaggfaa.PP
