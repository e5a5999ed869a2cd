/- set.Of at ints, by the library's Clone, Sort and Compact. -/
import Derived.Test.YtclhddldbfdfdaaHandBase
import Derived.Test.YtclhddldbfdfdaaOwnPut
import Derived.Test.YtclhddldbfdfdaaSetF
import Derived.Test.YtclhddldbfdfdaaShelf
import Derived.WalkKit
namespace Go.Proofs.Ytclhddldbfdfdaa.SetW
open Go.RowKit Go.Sort Go.Proofs.YtclhddldbfdfdaaW.PrintWords Go.Proofs.Ytclhddldbfdfdaa.SetF Go.Proofs.Ytclhddldbfdfdaa.OwnPut
set_option linter.unusedVariables false
set_option linter.unusedSimpArgs false

theorem ints_at {w : World} {A : Option Addr} {xs : List Int} (h : Kd.C (Kd.int .i64) w A xs.length xs) (hp : 0 < xs.length) :
    ∃ b o, A = some ⟨b, o, none⟩ ∧ b < w.heap.size ∧ ∀ j, j < xs.length → w.cell? ⟨b, o + j, none⟩ = some (.int .i64 (xs.getD j 0)) := by
  obtain ⟨b, o, rfl, hb, hc⟩ := Hand.row_at h hp (by decide)
  refine ⟨b, o, rfl, hb, fun j hj => ?_⟩
  obtain ⟨c, hl, hk, hcell⟩ := hc j xs[j] (List.getElem?_eq_getElem hj)
  obtain rfl : c = [.int .i64 xs[j]] := hk
  have := hcell 0 _ rfl
  rw [show j * (Kd.int .i64).sz + 0 = j from Nat.mul_one j] at this
  rw [this, List.getD_eq_getElem?_getD, List.getElem?_eq_getElem hj]; rfl
theorem nums_map (l : List Int) : nums .i64 l = l.map (Value.int .i64) := rfl
theorem R_own_int {e : Nat} {w : World} {base : Nat} {v : Value} {l : List Int} (h : w.ownsRow base e 1 v l.length (l.map (Value.int .i64))) : Kd.R (Kd.int .i64) e w base (fun _ => True) v l :=
  Kd.R_of_own (h1 := fun _ => rfl) (ok := fun _ => True) h (fun _ _ => trivial)

theorem own_some {w : World} {base n : Nat} {e : TypeId} {v : Value} {cs : List Value} (h : w.ownsRow base e 1 v n cs) (hne : v ≠ .slice none 0 0) : ∃ g cap, v = .slice (some ⟨g, 0, none⟩) n cap := by
  rcases h.2 with ⟨h1, _⟩ | ⟨g, cap, cur, h1, _⟩
  · exact absurd h1 hne
  · exact ⟨g, cap, h1⟩
def SlicePost (w : World) (l : List Int) (e : Ending) (w' : World) : Prop := ∃ v, e = .returned v ∧ Kd.R (Kd.int .i64) 3 w' w.heap.size (fun _ => True) v l ∧ Below w.heap.size w w'

set_option maxHeartbeats 4000000 in
set_option maxRecDepth 100000 in
theorem of_calls (A0 : Option Addr) (c0 : Nat) (l0 : List Int) (w : World) (hr : Kd.C (Kd.int .i64) w A0 l0.length l0) (hc : l0.length ≤ c0) (hb : l0.length * 8 ≤ 140737488355328) :
    Calls Try.prog 45 #[.slice A0 l0.length c0] w (SlicePost w (ofL l0)) := by
  by_cases hp : 0 < l0.length
  · obtain ⟨b, o, rfl, hbw, hcells⟩ := ints_at hr hp
    have hcl := Try.slices_Clone_int b o l0.length c0 l0 w (Nat.le_refl _) hb hcells
    rw [List.take_length] at hcl
    have HC := Aside0.mk hcl
    have HP := Aside0.mk hp
    have HB := Aside0.mk hb
    clear hcl hcells hr hc hbw hp hb
    go_enter Try.func45, Try.ntmps45
    go_wp2_with (first
      | (go_at_call 49; refine HC.out.mono ?_; rintro e w1 ⟨v1, rfl, ho, hne, hb1⟩; obtain ⟨g, cap, e1⟩ : ∃ g cap, v1 = .slice (some ⟨g, 0, none⟩) l0.length cap := own_some ho hne; subst e1; have HO1 := Aside0.mk ho; have HB1 := Aside0.mk hb1; clear ho hne hb1)
      | (go_at_call 50; obtain ⟨hH, hg, hcap, hl, hbg⟩ := own_holds HO1.out; have hs := Try.slices_Sort_int g 0 cap l0 w1 hH hg (by have := HB.out; omega); refine hs.mono ?_; rintro e w2 ⟨rfl, n, os, hw2⟩; have ho2 := own_put (enc := Value.int .i64) HO1.out n (l0.mergeSort fun x y => decide (x ≤ y)).toArray (by simp) l0.length (Nat.le_refl _); have hz := below_size HB1.out; have hB2 := below_grow (below_put HB1.out (Value.int .i64) g n (l0.mergeSort fun x y => decide (x ≤ y)).toArray hbg) (by rw [put_size]; exact hz) os; have ho3 := pw_own_below ho2 (below_grow (Below.refl _ _) (Nat.le_refl _) os); rw [← hw2] at hB2 ho3; have HB2 := Aside0.mk hB2; have HO2 := Aside0.mk (show w2.ownsRow w.heap.size 3 1 (.slice (some ⟨g, 0, none⟩) l0.length cap) l0.length ((l0.mergeSort fun x y => decide (x ≤ y)).map (Value.int .i64)) from by have e_ : (l0.mergeSort fun x y => decide (x ≤ y)).toArray.toList.take l0.length = (l0.mergeSort fun x y => decide (x ≤ y)) := List.take_of_length_le (by simp); rw [e_] at ho3; exact ho3); clear hH hg hcap hl hbg hs hw2 ho2 hz hB2 ho3)
      | (go_at_call 51; obtain ⟨hH, hg, hcap, hl, hbg⟩ := own_holds HO2.out; have hs := Try.slices_Compact_int g 0 cap (l0.mergeSort fun x y => decide (x ≤ y)) w2 hH (by have := HB.out; omega) (by omega); rw [hl] at hs; refine hs.mono ?_; rintro e w3 ⟨rfl, q, hw3⟩; have hle := ofL_len l0; have ho4 := own_put (enc := Value.int .i64) HO2.out q (Lib.compact (l0.mergeSort fun x y => decide (x ≤ y)) ++ List.replicate (l0.length - (Lib.compact (l0.mergeSort fun x y => decide (x ≤ y))).length) 0).toArray (by have h_ : (ofL l0).length ≤ l0.length := hle; unfold ofL at h_; simp; omega) (ofL l0).length hle; have hB4 := below_put HB2.out (Value.int .i64) g q (Lib.compact (l0.mergeSort fun x y => decide (x ≤ y)) ++ List.replicate (l0.length - (Lib.compact (l0.mergeSort fun x y => decide (x ≤ y))).length) 0).toArray hbg; rw [← hw3] at ho4 hB4; have HB3 := Aside0.mk hB4; have HO3 := Aside0.mk (show w3.ownsRow w.heap.size 3 1 (.slice (some ⟨g, 0, none⟩) (ofL l0).length cap) (ofL l0).length ((ofL l0).map (Value.int .i64)) from by have e_ : ((Lib.compact (l0.mergeSort fun x y => decide (x ≤ y)) ++ List.replicate (l0.length - (Lib.compact (l0.mergeSort fun x y => decide (x ≤ y))).length) 0).toArray.toList.take (ofL l0).length) = ofL l0 := List.take_left; rw [e_] at ho4; exact ho4); clear hH hg hcap hl hbg hs hw3 hle ho4 hB4))
    go_ret
    exact ⟨_, rfl, R_own_int HO3.out, HB3.out⟩
  · obtain rfl : l0 = [] := List.eq_nil_of_length_eq_zero (by omega)
    have hcl : Calls Try.prog 49 #[.slice A0 0 c0] w fun e w' => ∃ A c, e = .returned (.slice A 0 c) ∧ w'.ownsRow w.heap.size 3 1 (.slice A 0 c) 0 [] ∧ Below w.heap.size w w' := by
      cases A0 with
      | none => exact (Try.slices_Clone_int_nil 0 c0 w).mono fun e w' ⟨he, hw⟩ => ⟨none, 0, he, by rw [hw]; exact own_nil _ _ _ _, by rw [hw]; exact Below.refl _ _⟩
      | some a =>
        refine (Try.slices_Clone_int_zero a c0 w).mono ?_
        rintro e w' ⟨v, he, ho, _, hb⟩
        obtain ⟨A, c, rfl⟩ := own_slice ho
        exact ⟨A, c, he, ho, hb⟩
    have HC := Aside0.mk hcl
    clear hcl hr hc hb hp
    rw [show ofL [] = [] by simp [ofL, Lib.compact, Lib.compactUpTo]]
    simp only [List.length_nil]
    go_enter Try.func45, Try.ntmps45
    go_wp2_with (first
      | (go_at_call 49; refine HC.out.mono ?_; rintro e w1 ⟨A, c, rfl, ho, hb⟩; have HO := Aside0.mk ho; have HB := Aside0.mk hb; clear ho hb)
      | (go_at_call 50; refine (Try.slices_Sort_int_none A c w1).mono ?_; rintro e w2 ⟨rfl, rfl⟩)
      | (go_at_call 51; refine (Try.slices_Compact_int_empty A c _).mono ?_; rintro e w3 ⟨rfl, rfl⟩))
    go_ret
    exact ⟨_, rfl, R_own_int (l := []) HO.out, HB.out⟩
end Go.Proofs.Ytclhddldbfdfdaa.SetW
