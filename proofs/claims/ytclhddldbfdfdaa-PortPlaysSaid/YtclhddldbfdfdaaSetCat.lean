/- slices.Grow from nil, slices.Concat of two lists of ints, set.Join. -/
import Derived.Test.YtclhddldbfdfdaaSetKept
import Derived.Test.YtclhddldbfdfdaaWZeros
import Derived.Test.YtclhddldbfdfdaaWMore
namespace Go.Proofs.Ytclhddldbfdfdaa.SetW
open Go.RowKit Go.Sort Go.Proofs.YtclhddldbfdfdaaW.PrintWords Go.Proofs.YtclhddldbfdfdaaW.PrintMore Go.Proofs.Ytclhddldbfdfdaa.SetF Go.Proofs.Ytclhddldbfdfdaa.OwnPut
set_option linter.unusedVariables false
set_option linter.unusedSimpArgs false

theorem info_int : (Try.prog.info? 3).map (fun i => (i.zero, i.size, i.bytes)) = some (some (.int .i64 0), 1, 8) := by kernel_rfl

set_option maxHeartbeats 4000000 in
set_option maxRecDepth 100000 in
theorem grow_calls (n : Nat) (hn : n * 8 ≤ 140737488355328) (w : World) :
    Calls Try.prog 52 #[.slice none 0 0, .int .i64 (n : Int)] w (SlicePost w []) := by
  have HN := Aside0.mk hn
  clear hn
  have i0 : decide ((n : Int) < 0) = false := decide_eq_false (by omega)
  by_cases hp : 0 < n
  · have i1 : decide ((n : Int) > 0) = true := decide_eq_true (by omega)
    have i2 : decide ((0 : Int) < (n : Int)) = true := decide_eq_true (by omega)
    have i3 : (n : Int) - 0 = n := by omega
    have i4 : (n : Int) ≤ 17592186044416 := by have := HN.out; omega
    have i5 : 0 < (n : Int) := by omega
    go_enter Try.func52, Try.ntmps52
    go_wp2_with (first | (at_builtin; refine Kd.R_append_zeros (Kd.int .i64) (w0 := w) w.heap.size rfl (.tmp 20) (.tmp 21) 23 3 3 (.int .i64 0) 8 rfl Try.underlying23 Try.underlying3 info_int rfl (by decide) (by omega) (.slice none 0 0) [] 0 (n : Int) (fun _ => True) rfl rfl rfl (fun _ _ => trivial) (Kd.R_nil _ _ _ _ _) (by omega) (Below.refl _ _) (Nat.le_refl _) (by have := HN.out; simp; omega) ?_; intro v1 w1 ho hb hgb hat; clear hgb hat; obtain ⟨Ar, cr, er⟩ := Kd.R_slice ho; subst er; have HO := Aside0.mk ho; have HB := Aside0.mk hb; clear ho hb))
    go_ret
    have hr := Kd.R_take (m := 0) HO.out (Nat.zero_le _)
    exact ⟨_, rfl, hr, HB.out⟩
  · obtain rfl : n = 0 := by omega
    go_enter Try.func52, Try.ntmps52
    go_wp2
    go_ret
    exact ⟨_, rfl, Kd.R_nil _ _ _ _ _, Below.refl _ _⟩

set_option maxHeartbeats 4000000 in
set_option maxRecDepth 100000 in
theorem concat_calls (g cp : Nat) (A0 : Option Addr) (c0 : Nat) (l0 : List Int) (A1 : Option Addr) (c1 : Nat) (l1 : List Int) (w : World) (hg : w.heap[g]? = some (.cells #[.slice A0 l0.length c0, .slice A1 l1.length c1] 23 (0, 0))) (hr0 : Kd.C (Kd.int .i64) w A0 l0.length l0) (hr1 : Kd.C (Kd.int .i64) w A1 l1.length l1) (hb : (l0.length + l1.length) * 8 ≤ 140737488355328) :
    Calls Try.prog 46 #[.slice (some ⟨g, 0, none⟩) 2 cp] w (SlicePost w (l0 ++ l1)) := by
  have HL2 := Aside0.mk (show ∀ (i : Nat) (w' : World), i < 2 → w'.heap[g]? = some (.cells #[.slice A0 l0.length c0, .slice A1 l1.length c1] 23 (0, 0)) → ∃ A c l, w'.cell? ⟨g, i, none⟩ = some (.slice A l.length c) ∧ Kd.C (Kd.int .i64) w A l.length l ∧ (([l0, l1] : List (List Int)).take (i + 1)).flatten = (([l0, l1] : List (List Int)).take i).flatten ++ l ∧ ((([l0, l1] : List (List Int)).take i).flatten.length + l.length) * 8 ≤ 140737488355328 from by
    intro i w' hi hg
    rcases i with _ | _ | i
    · exact ⟨A0, c0, l0, by rw [World.cell?]; simp [hg], hr0, by simp, by simp; omega⟩
    · exact ⟨A1, c1, l1, by rw [World.cell?]; simp [hg], hr1, by simp, by simp; omega⟩
    · omega)
  have HG := Aside0.mk hg
  have HLen := Aside0.mk hb
  clear hg hr0 hr1 hb
  go_enter Try.func46, Try.ntmps46
  go_wp2
  go_loopg [3, 11] 3 (fun kq v3 v11 w' => ∃ (i t : Nat), v3 = .int .i64 (t : Int) ∧ v11 = .int .i64 (i : Int) ∧ Aside0 (kq + i = 3) ∧ Aside0 (i ≤ 2) ∧ Aside0 (t = (([l0, l1] : List (List Int)).take i).flatten.length) ∧ w = w')
  case atStart => exact ⟨0, 0, rfl, rfl, ⟨rfl⟩, ⟨by omega⟩, ⟨rfl⟩, rfl⟩
  case round =>
    obtain ⟨i, t, rfl, rfl, HK, HI, HT, rfl⟩ := hrel
    obtain ⟨k1, rfl⟩ : ∃ k1, gk = k1 + 1 := ⟨gk - 1, by have := HK.out; have := HI.out; omega⟩
    by_cases hi : i < 2
    · obtain ⟨A, c, l, hcell, hC, hd, hl⟩ := HL2.out i w hi HG.out
      have HD := Aside0.mk hd
      have HLl := Aside0.mk hl
      have hi0 : decide ((i : Int) < 2) = true := decide_eq_true (by omega)
      have hi1 : 0 ≤ (i : Int) := by omega
      have hi2 : (i : Int) < 2 := by omega
      have hw : (t : Int) + (l.length : Int) ≤ 17592186044416 := by have := HT.out; omega
      have hw0 : 0 ≤ (t : Int) + (l.length : Int) := by omega
      have hn : decide ((t : Int) + (l.length : Int) < 0) = false := decide_eq_false (by omega)
      clear hC hd hl
      go_wp2
      go_roundg k1
      case measure => omega
      case rel => exact ⟨i + 1, t + l.length, by go_num, by go_num, ⟨by have := HK.out; omega⟩, ⟨by omega⟩, ⟨by rw [HT.out, HD.out, List.length_append]⟩, rfl⟩
    · have hi0 : decide ((i : Int) < 2) = false := decide_eq_false (by omega)
      have ht : t = l0.length + l1.length := by
        have h_ := HT.out
        rw [List.take_of_length_le (by simp; omega)] at h_
        simpa using h_
      have HTl := Aside0.mk (show t * 8 ≤ 140737488355328 from by have := HLen.out; omega)
      clear ht
      go_wp2_with (go_at_call 52; refine (grow_calls t HTl.out _).mono ?_; rintro e w1 ⟨v1, rfl, hR, hb⟩; have HR := Aside0.mk hR; have HB := Aside0.mk hb; clear hR hb)
      go_loopg [6, 27] 3 (fun kq v6 v27 w' => ∃ (j : Nat), v27 = .int .i64 (j : Int) ∧ Aside0 (kq + j = 3) ∧ Aside0 (j ≤ 2) ∧ Aside0 (Kd.R (Kd.int .i64) 3 w' w.heap.size (fun _ => True) v6 (([l0, l1] : List (List Int)).take j).flatten) ∧ Aside0 (Below w.heap.size w w'))
      case atStart => exact ⟨0, rfl, ⟨rfl⟩, ⟨by omega⟩, HR, HB⟩
      case round =>
        clear HR HB
        obtain ⟨j, rfl, HK2, HJ, HR, HB⟩ := hrel
        obtain ⟨k2, rfl⟩ : ∃ k2, gk = k2 + 1 := ⟨gk - 1, by have := HK2.out; have := HJ.out; omega⟩
        obtain ⟨A6, c6, e6⟩ := Kd.R_slice HR.out
        subst e6
        by_cases hj : j < 2
        · have HG2 := Aside0.mk ((HB.out.block g (Array.getElem?_eq_some_iff.mp HG.out).1).trans HG.out)
          obtain ⟨A, c, l, hcell, hC, hd, hl⟩ := HL2.out j _ hj HG2.out
          have HD := Aside0.mk hd
          have HLl := Aside0.mk hl
          have HC := Aside0.mk (Kd.C_below hC HB.out)
          have hj0 : decide ((j : Int) < 2) = true := decide_eq_true (by omega)
          have hj1 : 0 ≤ (j : Int) := by omega
          have hj2 : (j : Int) < 2 := by omega
          clear hC hd hl
          generalize hx : (([l0, l1] : List (List Int)).take j).flatten = x6 at *
          clear hx
          go_wp2_with ((with_reducible refine gate_builtin (b := .append) (xs := #[.tmp 31, .tmp 32]) rfl ?_); at_builtin; refine Kd.R_append_rows (Kd.int .i64) (w0 := w) w.heap.size rfl (.tmp 31) (.tmp 32) 23 3 (.int .i64 0) 8 rfl Try.underlying23 info_int rfl (by decide) (by omega) _ x6 l _ _ _ (fun _ => True) (fun _ => False) rfl rfl HR.out HC.out (fun _ _ h => h) (fun _ h => h.elim) (fun _ _ => trivial) HB.out (below_size HB.out) HLl.out ?_; intro v1 w1 ho hb hgb hat; clear hgb hat; have HR2 := Aside0.mk ho; have HB2 := Aside0.mk hb; clear ho hb)
          go_roundg k2
          case measure => omega
          case rel => exact ⟨j + 1, by go_num, ⟨by have := HK2.out; omega⟩, ⟨by omega⟩, ⟨by rw [HD.out]; exact HR2.out⟩, HB2⟩
        · have hj0 : decide ((j : Int) < 2) = false := decide_eq_false (by omega)
          have HX := Aside0.mk (show Kd.R (Kd.int .i64) 3 wr w.heap.size (fun _ => True) (.slice A6 (([l0, l1] : List (List Int)).take j).flatten.length c6) (l0 ++ l1) from by
            have e_ : (([l0, l1] : List (List Int)).take j).flatten = l0 ++ l1 := by rw [List.take_of_length_le (by simp; omega)]; simp
            have h_ := HR.out
            rw [e_] at h_ ⊢
            exact h_)
          go_wp2
          go_ret
          exact ⟨_, rfl, HX.out, HB.out⟩
end Go.Proofs.Ytclhddldbfdfdaa.SetW
