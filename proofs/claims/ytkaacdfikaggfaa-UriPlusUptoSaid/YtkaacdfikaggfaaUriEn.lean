/- uri.Encode by hand. -/
import Derived.Test.YtkaacdfikaggfaaUriDe
namespace Go.Proofs.Ytkaacdfikaggfaa.UriD
open Go.RowKit Go.Proofs.YtkaacdfikaggfaaW.PrintWords Go.Proofs.YtkaacdfikaggfaaW.PrintLast Go.Proofs.YtkaacdfikaggfaaW.PrintMore Go.Proofs.Ytkaacdfikaggfaa.Bs Go.Proofs.Ytkaacdfikaggfaa.UriF
set_option linter.unusedVariables false
set_option linter.unusedSimpArgs false

theorem encL_append (a b : List Int) : encL (a ++ b) = encL a ++ encL b := by simp [encL]
theorem enc_next (s : ByteArray) (i : Nat) (hi : i < s.size) : encL ((bytesOf s).take (i + 1)) = encL ((bytesOf s).take i) ++ enc1 (bt s i) := by
  rw [List.take_succ_eq_append_getElem (by rw [bytesOf_length]; exact hi), encL_append, bt_get hi]; simp [encL]
theorem enc_len (s : ByteArray) (i : Nat) : (encL ((bytesOf s).take i)).length ≤ 3 * i := Nat.le_trans (encL_len _) (by have := List.length_take_le i (bytesOf s); omega)
theorem take_byte (s : ByteArray) (i : Nat) : ∀ x ∈ (bytesOf s).take i, isByte x := fun x hx => bytesOf_byte s x (List.mem_of_mem_take hx)

theorem hex_at {d : Int} (h0 : 0 ≤ d) (h1 : d < 16) : ∀ h : d.toNat < ({ data := #[48, 49, 50, 51, 52, 53, 54, 55, 56, 57, 65, 66, 67, 68, 69, 70] } : ByteArray).size, ((({ data := #[48, 49, 50, 51, 52, 53, 54, 55, 56, 57, 65, 66, 67, 68, 69, 70] } : ByteArray)[d.toNat]'h).toNat : Int) = hexd d := by
  have h2 : ∀ m : Fin 16, ∀ h : (m.val : Int).toNat < ({ data := #[48, 49, 50, 51, 52, 53, 54, 55, 56, 57, 65, 66, 67, 68, 69, 70] } : ByteArray).size, ((({ data := #[48, 49, 50, 51, 52, 53, 54, 55, 56, 57, 65, 66, 67, 68, 69, 70] } : ByteArray)[(m.val : Int).toNat]'h).toNat : Int) = hexd (m.val : Int) := by decide +kernel
  have h3 := h2 ⟨d.toNat, by omega⟩
  simp only [show ((d.toNat : Nat) : Int) = d by omega] at h3
  exact h3
theorem enc_hex {d : Int} (h0 : 0 ≤ d) (h1 : d < 16) : (Utf8.encode (hexd d)).size = 1 ∧ (Utf8.encode (hexd d)).data.toList.map (fun b => (b.toNat : Int)) = [hexd d] := by
  have h2 : ∀ m : Fin 16, (Utf8.encode (hexd (m.val : Int))).size = 1 ∧ (Utf8.encode (hexd (m.val : Int))).data.toList.map (fun b => (b.toNat : Int)) = [hexd (m.val : Int)] := by decide +kernel
  have h3 := h2 ⟨d.toNat, by omega⟩
  simp only [show ((d.toNat : Nat) : Int) = d by omega] at h3
  exact h3
theorem three_cells {a b : Int} (ha : 0 ≤ a ∧ a < 16) (hb : 0 ≤ b ∧ b < 16) : Lib.strCells (({ data := #[37] } : ByteArray) ++ Utf8.encode (hexd a) ++ Utf8.encode (hexd b)) = nums .u8 [37, hexd a, hexd b] := by
  have e : ∀ s : ByteArray, Lib.strCells s = nums .u8 (bytesOf s) := fun s => by simp [Lib.strCells, nums, bytesOf]
  rw [e, bytesOf_append, bytesOf_append]
  congr 1
  show [37] ++ _ ++ _ = _
  rw [show bytesOf (Utf8.encode (hexd a)) = [hexd a] from (enc_hex ha.1 ha.2).2, show bytesOf (Utf8.encode (hexd b)) = [hexd b] from (enc_hex hb.1 hb.2).2]; rfl
theorem and15 {c : Int} (hc : isByte c) : Go.bits .and .u8 c 15 = c % 16 := all_bytes (p := fun c => Go.bits .and .u8 c 15 = c % 16) (by decide +kernel) hc

set_option maxHeartbeats 8000000 in
set_option maxRecDepth 100000 in
theorem encode_calls (s : ByteArray) (w : World) (hs : 3 * s.size ≤ 140737488351232) :
    Calls Try.prog 10 #[.string s] w fun e w' => e = .returned (.string (strOfNums (encL (bytesOf s)))) ∧ Below w.heap.size w w' := by
  have HF := Aside0.mk (fresh w)
  have HS0 := Aside0.mk hs
  clear hs
  go_enter Try.func10, Try.ntmps10
  go_wp2
  go_loopg [7] (s.size + 2) (fun kq v7 w' => ∃ (i : Nat), v7 = .int .i64 (i : Int) ∧ Aside0 (s.size + 1 ≤ kq + i ∧ i ≤ s.size) ∧ Aside0 (Lib.IsBuilder 41 5 w.heap.size w.heap.size (nums .u8 (encL ((bytesOf s).take i))) w') ∧ Aside0 (Below w.heap.size w w'))
  case atStart => exact ⟨0, rfl, ⟨by omega⟩, HF, ⟨below_alloc (Below.refl _ _) _⟩⟩
  case round =>
    obtain ⟨i, rfl, HK, HB, HW⟩ := hrel
    clear HF
    by_cases hi : i < s.size
    · have hi0 : decide ((i : Int) < (s.size : Int)) = true := decide_eq_true (by omega)
      have hi1 : decide (i < s.size) = true := decide_eq_true hi
      have hi2 : 0 ≤ (i : Int) := by omega
      have hi3 : (i : Int) < (s.size : Int) := by omega
      have hsz : (s.size : Int) ≤ 140737488351232 := by have := HS0.out; omega
      have hx0 : ∀ h : i < s.size, ((s[i]'h).toNat : Int) = bt s (i : Int) := fun h => by have := bt_at s (i : Int) (by simpa using h); simpa using this
      have HN := Aside0.mk (enc_next s i hi)
      have HL := Aside0.mk (enc_len s i)
      cases hp : plainB (bt s i) with
      | true =>
        have HE := Aside0.mk (show encL ((bytesOf s).take (i + 1)) = encL ((bytesOf s).take i) ++ [bt s i] from by rw [HN.out, enc1, if_pos hp])
        have HWB := Aside0.mk (fun (x : Int) (w0 : World) (h1 : Lib.IsBuilder 41 5 w.heap.size w.heap.size (nums .u8 (encL ((bytesOf s).take i))) w0) (h2 : w.heap.size ≤ w0.heap.size) => Try.Builder_WriteByte w.heap.size w.heap.size (nums .u8 (encL ((bytesOf s).take i))) x w0 h1 (by have := HL.out; have := HS0.out; simp only [nums_length]; omega) h2)
        have HP := Aside0.mk hp
        clear hp
        go_wp2_with (first | (go_at_call 23; refine (plain_calls (bt s _) (bt_byte s _) _).mono ?_; rw [HP.out]; rintro e w' ⟨rfl, rfl⟩) | (go_at_call 20; refine (HWB.out _ _ HB.out (below_size HW.out)).mono ?_; rintro e w' ⟨rfl, hb, hw⟩; have HB2 := Aside0.mk (show Lib.IsBuilder 41 5 w.heap.size w.heap.size (nums .u8 (encL ((bytesOf s).take (i + 1)))) w' from by rw [HE.out]; exact isb (bld_snoc hb)); have HW2 := Aside0.mk (HW.out.trans hw); clear hb hw))
        go_roundg (gk - 1)
        case measure => have := HK.out; omega
        case rel => exact ⟨i + 1, by go_num, ⟨by have := HK.out; omega⟩, HB2, HW2⟩
      | false =>
        have HE := Aside0.mk (show encL ((bytesOf s).take (i + 1)) = encL ((bytesOf s).take i) ++ [37, hexd (bt s i / 16), hexd (bt s i % 16)] from by rw [HN.out, enc1, if_neg (by rw [hp]; decide)])
        have HP := Aside0.mk hp
        clear hp
        go_wp2_with (first | (go_at_call 23; refine (plain_calls (bt s _) (bt_byte s _) _).mono ?_; rw [HP.out]; rintro e w' ⟨rfl, rfl⟩))
        have hb := bt_byte s (i : Int)
        unfold isByte at hb
        have q1 : 0 ≤ bt s i / 16 := by omega
        have q2 : bt s i / 16 < 16 := by omega
        have q3 : 0 ≤ bt s i % 16 := by omega
        have q4 : bt s i % 16 < 16 := by omega
        have q5 := and15 (bt_byte s (i : Int))
        have q6 := hex_at q1 q2
        have q7 := hex_at q3 q4
        have q8 := (enc_hex q1 q2).1
        have q9 := (enc_hex q3 q4).1
        have H3 := Aside0.mk (three_cells ⟨q1, q2⟩ ⟨q3, q4⟩)
        have HL2 := Aside0.mk (show (nums .u8 (encL ((bytesOf s).take i))).length + (({ data := #[37] } : ByteArray) ++ Utf8.encode (hexd (bt s i / 16)) ++ Utf8.encode (hexd (bt s i % 16))).size ≤ 140737488355328 from by
          have := HL.out; have := HS0.out
          rw [ByteArray.size_append, ByteArray.size_append, q8, q9, nums_length]
          show _ + (1 + 1 + 1) ≤ _
          omega)
        clear hb
        refine start_ (n := 15) (S := fun w' => True) (ds := []) #[false, false, false, false, false, false, false, false, false, false, false, false, false, false, false] (by kernel_rfl) rfl rfl trivial (fun hHeld => ?_)
        refine pure_ (i := 0) (N := some 18) (v := ?_) (a' := ?_) #[true, false, false, false, false, false, false, false, false, false, false, false, false, false, false] rfl rfl (by kernel_rfl) (fun _ _ _ h => h) (Or.inl ⟨by rfl, ?_⟩) ?_ ?_
        rotate_left
        · intro w'
          go_simp
          with_reducible rfl
        rotate_left
        · simp only [Act.put, List.setIfInBounds_toArray, List.set_cons_zero, List.set_cons_succ, i64_w, i32_w]
          rfl
        refine pure_ (i := 1) (N := some 19) (v := ?_) (a' := ?_) #[true, true, false, false, false, false, false, false, false, false, false, false, false, false, false] rfl rfl (by kernel_rfl) (fun _ _ _ h => h) (Or.inl ⟨by rfl, ?_⟩) ?_ ?_
        rotate_left
        · intro w'
          go_simp
          with_reducible rfl
        rotate_left
        · simp only [Act.put, List.setIfInBounds_toArray, List.set_cons_zero, List.set_cons_succ, i64_w, i32_w]
          rfl
        refine pure_ (i := 7) (N := some 25) (v := ?_) (a' := ?_) #[true, true, false, false, false, false, false, true, false, false, false, false, false, false, false] rfl rfl (by kernel_rfl) (fun _ _ _ h => h) (Or.inl ⟨by rfl, ?_⟩) ?_ ?_
        rotate_left
        · intro w'
          go_simp
          with_reducible rfl
        rotate_left
        · simp only [Act.put, List.setIfInBounds_toArray, List.set_cons_zero, List.set_cons_succ, i64_w, i32_w]
          rfl
        refine pure_ (i := 8) (N := some 26) (v := ?_) (a' := ?_) #[true, true, false, false, false, false, false, true, true, false, false, false, false, false, false] rfl rfl (by kernel_rfl) (fun _ _ _ h => h) (Or.inl ⟨by rfl, ?_⟩) ?_ ?_
        rotate_left
        · intro w'
          go_simp
          with_reducible rfl
        rotate_left
        · simp only [Act.put, List.setIfInBounds_toArray, List.set_cons_zero, List.set_cons_succ, i64_w, i32_w]
          rfl
        refine take_ (i := 2) (N := some 20) (v := ?_) (a' := ?_) #[true, true, true, false, false, false, false, true, true, false, false, false, false, false, false] rfl rfl (by kernel_rfl) (fun _ _ _ h => h) (Or.inl ⟨by rfl, ?_⟩) hHeld ?_ ?_
        rotate_left
        · intro w' _
          go_simp
          with_reducible rfl
        rotate_left
        · simp only [Act.put, List.setIfInBounds_toArray, List.set_cons_zero, List.set_cons_succ, i64_w, i32_w]
          rfl
        refine pure_ (i := 3) (N := some 21) (v := ?_) (a' := ?_) #[true, true, true, true, false, false, false, true, true, false, false, false, false, false, false] rfl rfl (by kernel_rfl) (fun _ _ _ h => h) (Or.inl ⟨by rfl, ?_⟩) ?_ ?_
        rotate_left
        · intro w'
          go_simp
          with_reducible rfl
        rotate_left
        · simp only [Act.put, List.setIfInBounds_toArray, List.set_cons_zero, List.set_cons_succ, i64_w, i32_w]
          rfl
        refine take_ (i := 4) (N := some 22) (v := ?_) (a' := ?_) #[true, true, true, true, true, false, false, true, true, false, false, false, false, false, false] rfl rfl (by kernel_rfl) (fun _ _ _ h => h) (Or.inl ⟨by rfl, ?_⟩) hHeld ?_ ?_
        rotate_left
        · intro w' _
          go_simp
          with_reducible rfl
        rotate_left
        · simp only [Act.put, List.setIfInBounds_toArray, List.set_cons_zero, List.set_cons_succ, i64_w, i32_w]
          rfl
        refine pure_ (i := 5) (N := some 23) (v := ?_) (a' := ?_) #[true, true, true, true, true, true, false, true, true, false, false, false, false, false, false] rfl rfl (by kernel_rfl) (fun _ _ _ h => h) (Or.inl ⟨by rfl, ?_⟩) ?_ ?_
        rotate_left
        · intro w'
          go_simp
          with_reducible rfl
        rotate_left
        · simp only [Act.put, List.setIfInBounds_toArray, List.set_cons_zero, List.set_cons_succ, i64_w, i32_w]
          rfl
        refine pure_ (i := 6) (N := some 24) (v := ?_) (a' := ?_) #[true, true, true, true, true, true, true, true, true, false, false, false, false, false, false] rfl rfl (by kernel_rfl) (fun _ _ _ h => h) (Or.inl ⟨by rfl, ?_⟩) ?_ ?_
        rotate_left
        · intro w'
          go_simp
          with_reducible rfl
        rotate_left
        · simp only [Act.put, List.setIfInBounds_toArray, List.set_cons_zero, List.set_cons_succ, i64_w, i32_w]
          rfl
        refine take_ (i := 9) (N := some 27) (v := ?_) (a' := ?_) #[true, true, true, true, true, true, true, true, true, true, false, false, false, false, false] rfl rfl (by kernel_rfl) (fun _ _ _ h => h) (Or.inl ⟨by rfl, ?_⟩) hHeld ?_ ?_
        rotate_left
        · intro w' _
          go_simp
          with_reducible rfl
        rotate_left
        · simp only [Act.put, List.setIfInBounds_toArray, List.set_cons_zero, List.set_cons_succ, i64_w, i32_w]
          rfl
        refine pure_ (i := 10) (N := some 28) (v := ?_) (a' := ?_) #[true, true, true, true, true, true, true, true, true, true, true, false, false, false, false] rfl rfl (by kernel_rfl) (fun _ _ _ h => h) (Or.inl ⟨by rfl, ?_⟩) ?_ ?_
        rotate_left
        · intro w'
          go_simp
          with_reducible rfl
        rotate_left
        · simp only [Act.put, List.setIfInBounds_toArray, List.set_cons_zero, List.set_cons_succ, i64_w, i32_w]
          rfl
        refine take_ (i := 11) (N := some 29) (v := ?_) (a' := ?_) #[true, true, true, true, true, true, true, true, true, true, true, true, false, false, false] rfl rfl (by kernel_rfl) (fun _ _ _ h => h) (Or.inl ⟨by rfl, ?_⟩) hHeld ?_ ?_
        rotate_left
        · intro w' _
          go_simp
          with_reducible rfl
        rotate_left
        · simp only [Act.put, List.setIfInBounds_toArray, List.set_cons_zero, List.set_cons_succ, i64_w, i32_w]
          rfl
        refine pure_ (i := 12) (N := some 30) (v := ?_) (a' := ?_) #[true, true, true, true, true, true, true, true, true, true, true, true, true, false, false] rfl rfl (by kernel_rfl) (fun _ _ _ h => h) (Or.inl ⟨by rfl, ?_⟩) ?_ ?_
        rotate_left
        · intro w'
          go_simp
          with_reducible rfl
        rotate_left
        · simp only [Act.put, List.setIfInBounds_toArray, List.set_cons_zero, List.set_cons_succ, i64_w, i32_w]
          rfl
        refine pure_ (i := 13) (N := some 31) (v := ?_) (a' := ?_) #[true, true, true, true, true, true, true, true, true, true, true, true, true, true, false] rfl rfl (by kernel_rfl) (fun _ _ _ h => h) (Or.inl ⟨by rfl, ?_⟩) ?_ ?_
        rotate_left
        · intro w'
          go_simp
          with_reducible rfl
        rotate_left
        · simp only [Act.put, List.setIfInBounds_toArray, List.set_cons_zero, List.set_cons_succ, i64_w, i32_w]
          rfl
        refine one_ (i := 14) (N := some 32) #[true, true, true, true, true, true, true, true, true, true, true, true, true, true, true] rfl rfl (by kernel_rfl) (by decide) (fun K hK => ?_)
        refine goes_ Try.func24 (by kernel_rfl) rfl #[.pointer (some ⟨w.heap.size, 0, none⟩), .string (({ data := #[37] } : ByteArray) ++ Utf8.encode (hexd (bt s i / 16)) ++ Utf8.encode (hexd (bt s i % 16)))] (by rfl) rfl rfl (by simp only [List.map_toArray, List.map_cons, List.map_nil]; rfl) ?_
        with_reducible refine (Try.Builder_WriteString w.heap.size w.heap.size (nums .u8 (encL ((bytesOf s).take i))) _ _ (isb_drew HB.out) HL2.out (below_size (below_drew1 HW.out))).mono ?_
        rintro e w3 ⟨rfl, hb, hw⟩
        refine ⟨_, rfl, ?_⟩
        rw [H3.out, ← nums_append, ← HE.out] at hb
        have HB2 := Aside0.mk (isb hb)
        have HW2 := Aside0.mk ((below_drew1 HW.out).trans hw)
        clear hb hw
        refine hK.out _ _ trivial (fun hHeld => ?_)
        clear hK K
        refine norm_ (a' := ?_) ?_ ?_
        rotate_left
        · show Act.put _ (some 32) _ = _
          simp only [Act.put, List.setIfInBounds_toArray, List.set_cons_zero, List.set_cons_succ, i64_w, i32_w]
          rfl
        refine done_ (by kernel_rfl) ?_

        clear q1 q2 q3 q4 q5 q6 q7 q8 q9
        go_wp2
        go_roundg (gk - 1)
        case measure => have := HK.out; omega
        case rel => exact ⟨i + 1, by go_num, ⟨by have := HK.out; omega⟩, HB2, HW2⟩
    · have hi0 : decide ((i : Int) < (s.size : Int)) = false := decide_eq_false (by omega)
      have hi1 : decide (i < s.size) = false := decide_eq_false hi
      have HE := Aside0.mk (show (bytesOf s).take i = bytesOf s from List.take_of_length_le (by rw [bytesOf_length]; omega))
      have hst := Try.Builder_String_any w.heap.size w.heap.size ((encL (bytesOf s)).map fun x => UInt8.ofNat x.toNat) wr (by rw [← nums_cells (encL_byte (bytesOf_byte s)), ← HE.out]; exact HB.out) (below_size HW.out)
      rw [str_cells] at hst
      have HST := Aside0.mk hst
      clear hst
      go_wp2_with (go_at_call 21; refine HST.out.mono ?_; rintro e w' ⟨rfl, hb⟩; have HW2 := Aside0.mk (HW.out.trans hb); clear hb)
      go_ret
      exact ⟨rfl, HW2.out⟩
end Go.Proofs.Ytkaacdfikaggfaa.UriD
