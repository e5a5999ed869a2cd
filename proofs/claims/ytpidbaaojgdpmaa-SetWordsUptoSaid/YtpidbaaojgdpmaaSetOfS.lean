/- set.Of at texts, by the library's Clone, Sort and Compact. -/
import Derived.Test.YtpidbaaojgdpmaaHandBase
import Derived.Test.YtpidbaaojgdpmaaOwnPut
import Derived.Test.YtpidbaaojgdpmaaSetFS
import Derived.Test.YtpidbaaojgdpmaaShelf
import Derived.WalkKit
namespace Go.Proofs.Ytpidbaaojgdpmaa.SetWS
open Go.RowKit Go.Sort Go.Proofs.YtpidbaaojgdpmaaW.PrintWords Go.Proofs.Ytpidbaaojgdpmaa.SetF Go.Proofs.Ytpidbaaojgdpmaa.SetFS Go.Proofs.Ytpidbaaojgdpmaa.OwnPut
set_option linter.unusedVariables false
set_option linter.unusedSimpArgs false

theorem texts_at {w : World} {A : Option Addr} {xs : List ByteArray} (h : Kd.C Kd.string w A xs.length xs) (hp : 0 < xs.length) :
    ∃ b o, A = some ⟨b, o, none⟩ ∧ b < w.heap.size ∧ ∀ j, j < xs.length → w.cell? ⟨b, o + j, none⟩ = some (.string (xs.getD j ByteArray.empty)) := by
  obtain ⟨b, o, rfl, hb, hc⟩ := Hand.strings_at h hp
  refine ⟨b, o, rfl, hb, fun j hj => ?_⟩
  rw [hc j xs[j] (List.getElem?_eq_getElem hj), List.getD_eq_getElem?_getD, List.getElem?_eq_getElem hj]; rfl
theorem encStr_tol (b : ByteArray) : encStr (tol b) = .string b := rfl
theorem map_encStr (l : List ByteArray) : (l.map tol).map encStr = l.map Value.string := by rw [List.map_map]; rfl
theorem map_string (l : List (List UInt8)) : (l.map bal).map Value.string = l.map encStr := by rw [List.map_map]; rfl
theorem R_own_text {e : Nat} {w : World} {base : Nat} {v : Value} {l : List ByteArray} (h : w.ownsRow base e 1 v l.length (l.map Value.string)) : Kd.R Kd.string e w base (fun _ => True) v l :=
  Kd.R_of_own (h1 := fun _ => rfl) (ok := fun _ => True) h (fun _ _ => trivial)
theorem own_some {w : World} {base n : Nat} {e : TypeId} {v : Value} {cs : List Value} (h : w.ownsRow base e 1 v n cs) (hne : v ≠ .slice none 0 0) : ∃ g cap, v = .slice (some ⟨g, 0, none⟩) n cap := by
  rcases h.2 with ⟨h1, _⟩ | ⟨g, cap, cur, h1, _⟩
  · exact absurd h1 hne
  · exact ⟨g, cap, h1⟩
def SlicePost (w : World) (l : List ByteArray) (e : Ending) (w' : World) : Prop := ∃ v, e = .returned v ∧ Kd.R Kd.string 9 w' w.heap.size (fun _ => True) v l ∧ Below w.heap.size w w'

theorem sort_at (w w1 : World) (l0 : List ByteArray) (g cap : Nat) (hb : l0.length * 16 ≤ 140737488355328) (ho : w1.ownsRow w.heap.size 9 1 (.slice (some ⟨g, 0, none⟩) l0.length cap) l0.length (l0.map Value.string)) (hb1 : Below w.heap.size w w1) :
    Calls Try.prog 58 #[.slice (some ⟨g, 0, none⟩) l0.length cap] w1 fun e w2 => e = .returned (.tuple #[]) ∧ Below w.heap.size w w2 ∧ w2.ownsRow w.heap.size 9 1 (.slice (some ⟨g, 0, none⟩) l0.length cap) l0.length ((srt l0).map encStr) := by
  rw [← map_encStr] at ho
  obtain ⟨hH, hg, hcap, hl, hbg⟩ := own_holds ho
  have hs := Try.slices_Sort_string g 0 cap (l0.map tol) w1 hH hg (by rw [List.length_map]; omega)
  rw [List.length_map] at hs
  refine hs.mono ?_
  rintro e w2 ⟨rfl, n, os, hw2⟩
  have ho2 := own_put (enc := encStr) ho n ((l0.map tol).mergeSort fun x y => decide (x ≤ y)).toArray (by simp) l0.length (Nat.le_refl _)
  have hz := below_size hb1
  have hB2 := below_grow (below_put hb1 encStr g n ((l0.map tol).mergeSort fun x y => decide (x ≤ y)).toArray hbg) (by rw [put_size]; exact hz) os
  have ho3 := pw_own_below ho2 (below_grow (Below.refl _ _) (Nat.le_refl _) os)
  rw [← hw2] at hB2 ho3
  refine ⟨rfl, hB2, ?_⟩
  have e_ : ((l0.map tol).mergeSort fun x y => decide (x ≤ y)).toArray.toList.take l0.length = srt l0 := List.take_of_length_le (by simp)
  rw [e_] at ho3
  exact ho3
theorem compact_at (w w2 : World) (l0 : List ByteArray) (g cap : Nat) (hb : l0.length * 16 ≤ 140737488355328) (ho : w2.ownsRow w.heap.size 9 1 (.slice (some ⟨g, 0, none⟩) l0.length cap) l0.length ((srt l0).map encStr)) (hb1 : Below w.heap.size w w2) :
    Calls Try.prog 59 #[.slice (some ⟨g, 0, none⟩) l0.length cap] w2 fun e w3 => e = .returned (.slice (some ⟨g, 0, none⟩) (ofB l0).length cap) ∧ Below w.heap.size w w3 ∧ w3.ownsRow w.heap.size 9 1 (.slice (some ⟨g, 0, none⟩) (ofB l0).length cap) (ofB l0).length ((ofB l0).map Value.string) := by
  obtain ⟨hH, hg, hcap, hl, hbg⟩ := own_holds ho
  have hs := Try.slices_Compact_string g 0 cap (srt l0) w2 hH (by rw [srt_len]; omega) (by rw [srt_len]; omega)
  rw [srt_len] at hs
  have hle := ofB_len l0
  have hol : (ofB l0).length = (Lib.compact (srt l0)).length := List.length_map _
  refine hs.mono ?_
  rintro e w3 ⟨rfl, q, hw3⟩
  have ho4 := own_put (enc := encStr) ho q (Lib.compact (srt l0) ++ List.replicate (l0.length - (Lib.compact (srt l0)).length) []).toArray (by simp; omega) (ofB l0).length hle
  have hB4 := below_put hb1 encStr g q (Lib.compact (srt l0) ++ List.replicate (l0.length - (Lib.compact (srt l0)).length) []).toArray hbg
  rw [← hw3] at ho4 hB4
  refine ⟨by rw [hol], hB4, ?_⟩
  have e_ : (Lib.compact (srt l0) ++ List.replicate (l0.length - (Lib.compact (srt l0)).length) []).toArray.toList.take (ofB l0).length = Lib.compact (srt l0) := by rw [hol]; exact List.take_left
  rw [e_, ← map_string] at ho4
  exact ho4
theorem clone_empty (A0 : Option Addr) (c0 : Nat) (w : World) : Calls Try.prog 57 #[.slice A0 0 c0] w fun e w' => ∃ A c, e = .returned (.slice A 0 c) ∧ w'.ownsRow w.heap.size 9 1 (.slice A 0 c) 0 [] ∧ Below w.heap.size w w' := by
  cases A0 with
  | none => exact (Try.slices_Clone_string_nil 0 c0 w).mono fun e w' ⟨he, hw⟩ => ⟨none, 0, he, by rw [hw]; exact own_nil _ _ _ _, by rw [hw]; exact Below.refl _ _⟩
  | some a =>
    refine (Try.slices_Clone_string_zero a c0 w).mono ?_
    rintro e w' ⟨v, he, ho, _, hb⟩
    obtain ⟨A, c, rfl⟩ := own_slice ho
    exact ⟨A, c, he, ho, hb⟩
set_option maxHeartbeats 4000000 in
set_option maxRecDepth 100000 in
theorem of_calls (A0 : Option Addr) (c0 : Nat) (l0 : List ByteArray) (w : World) (hr : Kd.C Kd.string w A0 l0.length l0) (hc : l0.length ≤ c0) (hb : l0.length * 16 ≤ 140737488355328) :
    Calls Try.prog 43 #[.slice A0 l0.length c0] w (SlicePost w (ofB l0)) := by
  by_cases hp : 0 < l0.length
  · obtain ⟨b, o, rfl, hbw, hcells⟩ := texts_at hr hp
    have hcl := Try.slices_Clone_string b o l0.length c0 l0 w (Nat.le_refl _) hb hcells
    rw [List.take_length] at hcl
    have HC := Aside0.mk hcl
    have HL := Aside0.mk hb
    clear hcl hcells hr hc hbw hp hb
    go_enter Try.func43, Try.ntmps43
    go_wp2_with (first
      | (go_at_call 57; refine HC.out.mono ?_; rintro e w1 ⟨v1, rfl, ho, hne, hb1⟩; obtain ⟨g, cap, e1⟩ : ∃ g cap, v1 = .slice (some ⟨g, 0, none⟩) l0.length cap := own_some ho hne; subst e1; have HO1 := Aside0.mk ho; have HB1 := Aside0.mk hb1; clear ho hne hb1)
      | (go_at_call 58; refine (sort_at w w1 l0 g cap HL.out HO1.out HB1.out).mono ?_; rintro e w2 ⟨rfl, hb2, ho2⟩; have HO2 := Aside0.mk ho2; have HB2 := Aside0.mk hb2; clear ho2 hb2)
      | (go_at_call 59; refine (compact_at w w2 l0 g cap HL.out HO2.out HB2.out).mono ?_; rintro e w3 ⟨rfl, hb3, ho3⟩; have HO3 := Aside0.mk ho3; have HB3 := Aside0.mk hb3; clear ho3 hb3))
    go_ret
    exact ⟨_, rfl, R_own_text HO3.out, HB3.out⟩
  · obtain rfl : l0 = [] := List.eq_nil_of_length_eq_zero (by omega)
    have HC := Aside0.mk (clone_empty A0 c0 w)
    clear hr hc hb hp
    rw [show ofB [] = [] by simp [ofB, srt, Lib.compact, Lib.compactUpTo]]
    simp only [List.length_nil]
    go_enter Try.func43, Try.ntmps43
    go_wp2_with (first
      | (go_at_call 57; refine HC.out.mono ?_; rintro e w1 ⟨A, c, rfl, ho, hb⟩; have HO := Aside0.mk ho; have HB := Aside0.mk hb; clear ho hb)
      | (go_at_call 58; refine (Try.slices_Sort_string_none A c w1).mono ?_; rintro e w2 ⟨rfl, rfl⟩)
      | (go_at_call 59; refine (Try.slices_Compact_string_empty A c _).mono ?_; rintro e w3 ⟨rfl, rfl⟩))
    go_ret
    exact ⟨_, rfl, R_own_text (l := []) HO.out, HB.out⟩
end Go.Proofs.Ytpidbaaojgdpmaa.SetWS
