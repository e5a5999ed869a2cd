/- strings.Cut at one byte, by hand: no table of the library's is read there. -/
import Derived.Test.YtkaacdfikaggfaaIdx
import Derived.Test.YtkaacdfikaggfaaShelf
namespace Go.Proofs.Ytkaacdfikaggfaa.UriD
open Go.RowKit Go.Proofs.YtkaacdfikaggfaaW.PrintWords Go.Proofs.YtkaacdfikaggfaaW.PrintLast Go.Proofs.YtkaacdfikaggfaaW.PrintMore Go.Proofs.Ytkaacdfikaggfaa.Bs
set_option linter.unusedVariables false
set_option linter.unusedSimpArgs false

theorem ret_cut {a b a' b' : ByteArray} {x x' : Bool} (h : a = a') (h1 : b = b') (h2 : x = x') : Ending.returned (.tuple #[.string a, .string b, .bool x]) = .returned (.tuple #[.string a', .string b', .bool x']) := by rw [h, h1, h2]
set_option maxHeartbeats 4000000 in
set_option maxRecDepth 100000 in
theorem lite_cut (s : ByteArray) (u : UInt8) (hs : s.size ≤ 140737488351232) (w : World) : Calls Try.prog 35 #[.string s, .string ⟨#[u]⟩] w fun e w' => e = .returned (.tuple #[.string (cutR (u.toNat : Int) s).1, .string (cutR (u.toNat : Int) s).2.1, .bool (cutR (u.toNat : Int) s).2.2]) ∧ Drawn0 w w' := by
  have HI := Aside0.mk (indexByte_idxL s u)
  rcases idxL_cases (u.toNat : Int) (bytesOf s) with ⟨h1, h2⟩ | ⟨k, h1, h2, h3, h4⟩
  · rw [h1] at HI
    have HH := Aside0.mk (cutR_none h1)
    clear h1 h2
    go_enter Try.func35, Try.ntmps35
    go_wp2_with (go_at_call 40; refine (Try.stringslite_Index_one _ _ _).mono ?_; rw [HI.out]; rintro e w' ⟨rfl, rfl⟩)
    go_ret3
    exact ⟨ret_cut (by rw [HH.out]) (by rw [HH.out]) (by rw [HH.out]), Drawn0.refl _⟩
  · rw [bytesOf_length] at h2
    rw [h1] at HI
    have HH := Aside0.mk (cutR_some h1)
    have hk0 : 0 ≤ (k : Int) := by omega
    have hk1 : (k : Int) ≤ (s.size : Int) := by omega
    have hk2 : (k : Int) + 1 ≤ (s.size : Int) := by omega
    have hk3 : k + 1 ≤ s.size := by omega
    have hk4 : k ≤ s.size := by omega
    have hk5 : 0 ≤ (k : Int) + 1 := by omega
    have hk6 : ((k : Int) + 1).toNat = k + 1 := by omega
    have hk7 : wrap64 ((k : Int) + 1) = (k : Int) + 1 := w64 (by omega)
    clear h1 h2 h3 h4
    go_enter Try.func35, Try.ntmps35
    go_wp2_with (go_at_call 40; refine (Try.stringslite_Index_one _ _ _).mono ?_; rw [HI.out]; rintro e w' ⟨rfl, rfl⟩)
    refine start_ (n := 12) (S := fun w' => True) (ds := []) #[false, false, false, false, false, false, false, false, false, false, false, false] (by kernel_rfl) rfl rfl trivial (fun hHeld => ?_)
    refine pure_ (i := 0) (N := some 13) (v := ?_) (a' := ?_) #[true, false, false, false, false, false, false, false, false, false, false, false] rfl rfl (by kernel_rfl) (fun _ _ _ h => h) (Or.inl ⟨by rfl, ?_⟩) ?_ ?_
    rotate_left
    · intro w'
      go_simp
      with_reducible rfl
    rotate_left
    · simp only [Act.put, List.setIfInBounds_toArray, List.set_cons_zero, List.set_cons_succ, i64_w, i32_w]
      rfl
    refine pure_ (i := 1) (N := some 14) (v := ?_) (a' := ?_) #[true, true, false, false, false, false, false, false, false, false, false, false] rfl rfl (by kernel_rfl) (fun _ _ _ h => h) (Or.inl ⟨by rfl, ?_⟩) ?_ ?_
    rotate_left
    · intro w'
      go_simp
      with_reducible rfl
    rotate_left
    · simp only [Act.put, List.setIfInBounds_toArray, List.set_cons_zero, List.set_cons_succ, i64_w, i32_w]
      rfl
    refine pure_ (i := 2) (N := some 15) (v := ?_) (a' := ?_) #[true, true, true, false, false, false, false, false, false, false, false, false] rfl rfl (by kernel_rfl) (fun _ _ _ h => h) (Or.inl ⟨by rfl, ?_⟩) ?_ ?_
    rotate_left
    · intro w'
      go_simp
      with_reducible rfl
    rotate_left
    · simp only [Act.put, List.setIfInBounds_toArray, List.set_cons_zero, List.set_cons_succ, i64_w, i32_w]
      rfl
    refine pure_ (i := 3) (N := some 16) (v := ?_) (a' := ?_) #[true, true, true, true, false, false, false, false, false, false, false, false] rfl rfl (by kernel_rfl) (fun _ _ _ h => h) (Or.inl ⟨by rfl, ?_⟩) ?_ ?_
    rotate_left
    · intro w'
      go_simp
      with_reducible rfl
    rotate_left
    · simp only [Act.put, List.setIfInBounds_toArray, List.set_cons_zero, List.set_cons_succ, i64_w, i32_w]
      rfl
    refine pure_ (i := 4) (N := some 17) (v := ?_) (a' := ?_) #[true, true, true, true, true, false, false, false, false, false, false, false] rfl rfl (by kernel_rfl) (fun _ _ _ h => h) (Or.inl ⟨by rfl, ?_⟩) ?_ ?_
    rotate_left
    · intro w'
      go_simp
      with_reducible rfl
    rotate_left
    · simp only [Act.put, List.setIfInBounds_toArray, List.set_cons_zero, List.set_cons_succ, i64_w, i32_w]
      rfl
    refine pure_ (i := 5) (N := some 18) (v := ?_) (a' := ?_) #[true, true, true, true, true, true, false, false, false, false, false, false] rfl rfl (by kernel_rfl) (fun _ _ _ h => h) (Or.inl ⟨by rfl, ?_⟩) ?_ ?_
    rotate_left
    · intro w'
      go_simp
      with_reducible rfl
    rotate_left
    · simp only [Act.put, List.setIfInBounds_toArray, List.set_cons_zero, List.set_cons_succ, i64_w, i32_w]
      rfl
    refine pure_ (i := 6) (N := some 19) (v := ?_) (a' := ?_) #[true, true, true, true, true, true, true, false, false, false, false, false] rfl rfl (by kernel_rfl) (fun _ _ _ h => h) (Or.inl ⟨by rfl, ?_⟩) ?_ ?_
    rotate_left
    · intro w'
      go_simp
      with_reducible rfl
    rotate_left
    · simp only [Act.put, List.setIfInBounds_toArray, List.set_cons_zero, List.set_cons_succ, i64_w, i32_w]
      rfl
    refine pure_ (i := 7) (N := some 20) (v := ?_) (a' := ?_) #[true, true, true, true, true, true, true, true, false, false, false, false] rfl rfl (by kernel_rfl) (fun _ _ _ h => h) (Or.inl ⟨by rfl, ?_⟩) ?_ ?_
    rotate_left
    · intro w'
      go_simp
      with_reducible rfl
    rotate_left
    · simp only [Act.put, List.setIfInBounds_toArray, List.set_cons_zero, List.set_cons_succ, i64_w, i32_w]
      rfl
    refine pure_ (i := 8) (N := some 21) (v := ?_) (a' := ?_) #[true, true, true, true, true, true, true, true, true, false, false, false] rfl rfl (by kernel_rfl) (fun _ _ _ h => h) (Or.inl ⟨by rfl, ?_⟩) ?_ ?_
    rotate_left
    · intro w'
      go_simp
      with_reducible rfl
    rotate_left
    · simp only [Act.put, List.setIfInBounds_toArray, List.set_cons_zero, List.set_cons_succ, i64_w, i32_w]
      rfl
    refine pure_ (i := 9) (N := some 4) (v := ?_) (a' := ?_) #[true, true, true, true, true, true, true, true, true, true, false, false] rfl rfl (by kernel_rfl) (fun _ _ _ h => h) (Or.inl ⟨by rfl, ?_⟩) ?_ ?_
    rotate_left
    · intro w'
      go_simp
      with_reducible rfl
    rotate_left
    · simp only [Act.put, List.setIfInBounds_toArray, List.set_cons_zero, List.set_cons_succ, i64_w, i32_w]
      rfl
    refine pure_ (i := 10) (N := some 5) (v := ?_) (a' := ?_) #[true, true, true, true, true, true, true, true, true, true, true, false] rfl rfl (by kernel_rfl) (fun _ _ _ h => h) (Or.inl ⟨by rfl, ?_⟩) ?_ ?_
    rotate_left
    · intro w'
      go_simp
      with_reducible rfl
    rotate_left
    · simp only [Act.put, List.setIfInBounds_toArray, List.set_cons_zero, List.set_cons_succ, i64_w, i32_w]
      rfl
    refine pure_ (i := 11) (N := some 6) (v := ?_) (a' := ?_) #[true, true, true, true, true, true, true, true, true, true, true, true] rfl rfl (by kernel_rfl) (fun _ _ _ h => h) (Or.inl ⟨by rfl, ?_⟩) ?_ ?_
    rotate_left
    · intro w'
      go_simp
      with_reducible rfl
    rotate_left
    · simp only [Act.put, List.setIfInBounds_toArray, List.set_cons_zero, List.set_cons_succ, i64_w, i32_w]
      rfl
    refine done_ (by kernel_rfl) ?_

    clear hk7
    go_wp2
    go_ret3
    exact ⟨ret_cut (by rw [HH.out]) (by rw [HH.out]) (by rw [HH.out]), (Drawn0.refl _).step 1⟩
set_option maxHeartbeats 4000000 in
set_option maxRecDepth 100000 in
theorem cut_calls (s : ByteArray) (u : UInt8) (hs : s.size ≤ 140737488351232) (w : World) : Calls Try.prog 28 #[.string s, .string ⟨#[u]⟩] w fun e w' => e = .returned (.tuple #[.string (cutR (u.toNat : Int) s).1, .string (cutR (u.toNat : Int) s).2.1, .bool (cutR (u.toNat : Int) s).2.2]) ∧ Drawn0 w w' := by
  go_enter Try.func28, Try.ntmps28
  go_wp2_with (go_at_call 35; refine (lite_cut s u hs _).mono ?_; rintro e w' ⟨rfl, hd⟩)
  go_ret3
  exact ⟨rfl, hd⟩
theorem cut_hand (a0 a1 r1 r2 : ByteArray) (r3 : Bool) (w : World) (h : (if a1.size = 1 then (if a0.size ≤ 140737488351232 then some (cutR (bt a1 0) a0) else none) else none) = some (r1, r2, r3)) :
    Calls Try.prog 28 #[.string a0, .string a1] w fun e w' => e = .returned (.tuple #[.string r1, .string r2, .bool r3]) ∧ Drawn0 w w' := by
  split at h
  · rename_i h1
    split at h
    · rename_i hs
      have h := Option.some.inj h
      obtain ⟨u, rfl⟩ : ∃ u, a1 = ⟨#[u]⟩ := by
        have h2 : a1.data.size = 1 := h1
        obtain ⟨d⟩ := a1
        match d, h2 with
        | ⟨[u]⟩, _ => exact ⟨u, rfl⟩
      have := cut_calls a0 u hs w
      rw [show bt (⟨#[u]⟩ : ByteArray) 0 = (u.toNat : Int) from rfl] at h
      rw [h] at this
      exact this
    · cases h
  · cases h
end Go.Proofs.Ytkaacdfikaggfaa.UriD
