/- uri.Decode by hand: a Builder, written in a loop. -/
import Derived.Test.YtkaacdfikaggfaaUriD
namespace Go.Proofs.Ytkaacdfikaggfaa.UriD
open Go.RowKit Go.Proofs.YtkaacdfikaggfaaW.PrintWords Go.Proofs.YtkaacdfikaggfaaW.PrintLast Go.Proofs.YtkaacdfikaggfaaW.PrintMore Go.Proofs.Ytkaacdfikaggfaa.Bs Go.Proofs.Ytkaacdfikaggfaa.UriF
set_option linter.unusedVariables false
set_option linter.unusedSimpArgs false

theorem nums_cells {l : List Int} (h : ∀ x ∈ l, isByte x) : nums .u8 l = Lib.byteCells (l.map fun x => UInt8.ofNat x.toNat) := by
  simp only [nums, Lib.byteCells, List.map_map]
  refine List.map_congr_left fun x hx => ?_
  have := h x hx
  unfold isByte at this
  simp only [Function.comp]
  congr 1
  rw [UInt8.toNat_ofNat_of_lt' (by simp [UInt8.size]; omega)]; omega
theorem str_cells (l : List Int) : (⟨(l.map fun x => UInt8.ofNat x.toNat).toArray⟩ : ByteArray) = strOfNums l := by
  have : ∀ a b : ByteArray, a.data.toList = b.data.toList → a = b := fun a b h => by cases a; cases b; simp_all
  refine this _ _ ?_
  rw [strOfNums_data]
/-- A fresh builder. -/
theorem fresh (w : World) : Lib.IsBuilder 41 5 w.heap.size w.heap.size (nums .u8 []) (w.alloc (.cells #[.pointer none, .slice none 0 0] 41)) :=
  .inl ⟨Nat.le_refl _, .slice none 0 0, heap_alloc_new w _, own_nil _ _ _ _, by simp [Value.ownBlock]⟩
theorem bld_snoc {B b : Nat} {acc : List Int} {x : Int} {p : Value} {w : World} (h : Lib.BuilderAt 41 5 B b p (nums .u8 acc ++ [.int .u8 x]) w) : Lib.BuilderAt 41 5 B b p (nums .u8 (acc ++ [x])) w := by
  rwa [nums_append]
theorem isb {B b : Nat} {bs : List Value} {w : World} (h : Lib.BuilderAt 41 5 B b (.pointer (some ⟨b, 0, none⟩)) bs w) : Lib.IsBuilder 41 5 B b bs w := .inr h
theorem isb_drew {B b : Nat} {bs : List Value} {w : World} (h : Lib.IsBuilder 41 5 B b bs w) : Lib.IsBuilder 41 5 B b bs w.drew := h
theorem byte_snoc {acc : List Int} {y : Int} (h : ∀ x ∈ acc, isByte x) (hy : isByte y) : ∀ x ∈ acc ++ [y], isByte x := fun x hx => by
  rcases List.mem_append.1 hx with hx | hx
  · exact h x hx
  · obtain rfl := List.mem_singleton.1 hx; exact hy
theorem two_digits {a b : Int} (ha : 0 ≤ a ∧ a ≤ 15) (hb : 0 ≤ b ∧ b ≤ 15) : IntKind.u8.wrap (Go.bits .or .i64 (wrap64 (a * 16)) b) = 16 * a + b := by
  have h : ∀ m n : Fin 16, IntKind.u8.wrap (Go.bits .or .i64 (wrap64 ((m.val : Int) * 16)) (n.val : Int)) = 16 * (m.val : Int) + (n.val : Int) := by decide +kernel
  have h1 := h ⟨a.toNat, by omega⟩ ⟨b.toNat, by omega⟩
  simp only at h1
  rwa [show ((a.toNat : Nat) : Int) = a by omega, show ((b.toNat : Nat) : Int) = b by omega] at h1
theorem ret3 {s s' : ByteArray} {a b a' b' : Int} (h : s = s') (ha : a = a') (hb : b = b') : Ending.returned (.tuple #[.string s, .int .i64 a, .int .i64 b]) = .returned (.tuple #[.string s', .int .i64 a', .int .i64 b']) := by rw [h, ha, hb]

set_option maxHeartbeats 8000000 in
set_option maxRecDepth 100000 in
theorem decode_true (s : ByteArray) (w : World) (hs : s.size ≤ 140737488351232) :
    Calls Try.prog 8 #[.string s, .bool true] w fun e w' => e = .returned (.tuple #[.string (decodeR s true).1, .int .i64 (decodeR s true).2.1, .int .i64 (decodeR s true).2.2]) ∧ Below w.heap.size w w' := by
  obtain ⟨R, hR⟩ : ∃ R, R = decL true (bytesOf s) := ⟨_, rfl⟩
  have HR := Aside0.mk hR
  have HF := Aside0.mk (fresh w)
  have HS0 := Aside0.mk hs
  clear hR hs
  go_enter Try.func8, Try.ntmps8
  go_wp2
  go_loopg [8] (s.size + 2) (fun kq v8 w' => ∃ (acc : List Int) (i : Nat), v8 = .int .i64 (i : Int) ∧ Aside0 (s.size + 1 ≤ kq + i ∧ i ≤ s.size) ∧ Aside0 (decA true ((bytesOf s).drop i) 0 acc i = R) ∧ Aside0 (∀ x ∈ acc, isByte x) ∧ Aside0 (acc.length ≤ i) ∧ Aside0 (Lib.IsBuilder 41 5 w.heap.size w.heap.size (nums .u8 acc) w') ∧ Aside0 (Below w.heap.size w w'))
  case atStart => exact ⟨[], 0, rfl, ⟨by omega⟩, ⟨by rw [HR.out]; rfl⟩, ⟨by intro x hx; cases hx⟩, ⟨by simp⟩, HF, ⟨below_alloc (Below.refl _ _) _⟩⟩
  case round =>
    obtain ⟨acc, i, rfl, HK, HD, HA, HL, HB, HW⟩ := hrel
    clear HF
    by_cases hi : i < s.size
    · have hi0 : decide ((i : Int) < (s.size : Int)) = true := decide_eq_true (by omega)
      have hi1 : decide (i < s.size) = true := decide_eq_true hi
      have hi2 : 0 ≤ (i : Int) := by omega
      have hi3 : (i : Int) < (s.size : Int) := by omega
      have hsz : (s.size : Int) ≤ 140737488351232 := by have := HS0.out; omega
      have hx0 : ∀ h : i < s.size, ((s[i]'h).toNat : Int) = bt s (i : Int) := fun h => by have := bt_at s (i : Int) (by simpa using h); simpa using this
      have HN := Aside0.mk (byte_snoc HA.out (y := 32) (by unfold isByte; omega))
      have HC := Aside0.mk (byte_snoc HA.out (bt_byte s i))
      have step := HD.out
      rw [decA_at true s i hi] at step
      by_cases h37 : bt s i = 37
      · rw [if_pos h37] at step
        have e37 : (bt s i == 37) = true := by simpa using h37
        by_cases b1 : (i : Int) + 2 ≥ s.size
        · rw [if_pos (.inl b1)] at step
          have HE := Aside0.mk step
          clear step h37 hi3
          have b3 : decide ((s.size : Int) ≤ (i : Int) + 2) = true := decide_eq_true b1
          have b4 : decide (s.size ≤ i + 2) = true := decide_eq_true (by omega)
          go_wp2
          go_ret3
          exact ⟨ret3 (by rw [show (decodeR s true).1 = strOfNums R.1 from by rw [HR.out]; rfl, ← HE.out]; rfl) (by rw [show (decodeR s true).2 = R.2 from by rw [HR.out]; rfl, ← HE.out]) (by rw [show (decodeR s true).2 = R.2 from by rw [HR.out]; rfl, ← HE.out]), HW.out⟩
        · have b3 : decide ((s.size : Int) ≤ (i : Int) + 2) = false := decide_eq_false b1
          have b4 : decide (s.size ≤ i + 2) = false := decide_eq_false (by omega)
          have b5 : (i : Int) + 2 < (s.size : Int) := by omega
          have b6 : (i : Int) + 1 < (s.size : Int) := by omega
          have hx1 : ∀ h : i + 1 < s.size, ((s[i + 1]'h).toNat : Int) = bt s ((i : Int) + 1) := fun h => bt_at s ((i : Int) + 1) (by have e : ((i : Int) + 1).toNat = i + 1 := by omega
                                                                                                                                     rw [e]; exact h)
          have hx2 : ∀ h : i + 2 < s.size, ((s[i + 2]'h).toNat : Int) = bt s ((i : Int) + 2) := fun h => bt_at s ((i : Int) + 2) (by have e : ((i : Int) + 2).toNat = i + 2 := by omega
                                                                                                                                     rw [e]; exact h)
          by_cases b2 : dig (bt s ((i : Int) + 1)) < 0
          · rw [if_pos (.inr (.inl b2))] at step
            have HE := Aside0.mk step
            clear step h37 b1
            have b7 : decide (dig (bt s ((i : Int) + 1)) < 0) = true := decide_eq_true b2
            clear b2
            go_wp2_with (go_at_call 19; refine (digit_calls (bt s _) (bt_byte s _) _).mono ?_; rintro e w' ⟨rfl, rfl⟩)
            go_ret3
            exact ⟨ret3 (by rw [show (decodeR s true).1 = strOfNums R.1 from by rw [HR.out]; rfl, ← HE.out]; rfl) (by rw [show (decodeR s true).2 = R.2 from by rw [HR.out]; rfl, ← HE.out]) (by rw [show (decodeR s true).2 = R.2 from by rw [HR.out]; rfl, ← HE.out]), HW.out⟩
          · have b7 : decide (dig (bt s ((i : Int) + 1)) < 0) = false := decide_eq_false b2
            have d1 := dig_range (bt s ((i : Int) + 1))
            have d2 := dig_range (bt s ((i : Int) + 2))
            by_cases b8 : dig (bt s ((i : Int) + 2)) < 0
            · rw [if_pos (.inr (.inr b8))] at step
              have HE := Aside0.mk step
              clear step h37 b1
              have b9 : decide (dig (bt s ((i : Int) + 2)) < 0) = true := decide_eq_true b8
              clear b2 b8
              go_wp2_with (go_at_call 19; refine (digit_calls (bt s _) (bt_byte s _) _).mono ?_; rintro e w' ⟨rfl, rfl⟩)
              go_ret3
              exact ⟨ret3 (by rw [show (decodeR s true).1 = strOfNums R.1 from by rw [HR.out]; rfl, ← HE.out]; rfl) (by rw [show (decodeR s true).2 = R.2 from by rw [HR.out]; rfl, ← HE.out]) (by rw [show (decodeR s true).2 = R.2 from by rw [HR.out]; rfl, ← HE.out]), HW.out⟩
            · rw [if_neg (by rintro (h | h | h) <;> omega)] at step
              have HE := Aside0.mk step
              have b9 : decide (dig (bt s ((i : Int) + 2)) < 0) = false := decide_eq_false b8
              have HT := Aside0.mk (two_digits (a := dig (bt s ((i : Int) + 1))) (b := dig (bt s ((i : Int) + 2))) (by omega) (by omega))
              have HX := Aside0.mk (byte_snoc HA.out (y := 16 * dig (bt s ((i : Int) + 1)) + dig (bt s ((i : Int) + 2))) (by unfold isByte; omega))
              clear step h37 b1
              go_wp2_with (go_at_call 19; refine (digit_calls (bt s _) (bt_byte s _) _).mono ?_; rintro e w' ⟨rfl, rfl⟩)
              have HL2 := Aside0.mk (show (nums .u8 acc).length + 1 ≤ 140737488355328 from by have := HL.out; simp only [nums_length]; omega)
              have q1 : wrap64 ((i : Int) + 1) = (i : Int) + 1 := w64 (by omega)
              have q2 : wrap64 ((i : Int) + 2) = (i : Int) + 2 := w64 (by omega)
              have q3 : 0 ≤ (i : Int) + 1 := by omega
              have q4 : 0 ≤ (i : Int) + 2 := by omega
              have q5 : ((i : Int) + 1).toNat = i + 1 := by omega
              have q6 : ((i : Int) + 2).toNat = i + 2 := by omega
              refine start_ (n := 14) (S := fun w' => True) (ds := []) #[false, false, false, false, false, false, false, false, false, false, false, false, false, false] (by kernel_rfl) rfl rfl trivial (fun hHeld => ?_)
              refine pure_ (i := 0) (N := some 46) (v := ?_) (a' := ?_) #[true, false, false, false, false, false, false, false, false, false, false, false, false, false] rfl rfl (by kernel_rfl) (fun _ _ _ h => h) (Or.inl ⟨by rfl, ?_⟩) ?_ ?_
              rotate_left
              · intro w'
                go_simp
                with_reducible rfl
              rotate_left
              · simp only [Act.put, List.setIfInBounds_toArray, List.set_cons_zero, List.set_cons_succ, i64_w, i32_w]
                rfl
              refine pure_ (i := 1) (N := some 47) (v := ?_) (a' := ?_) #[true, true, false, false, false, false, false, false, false, false, false, false, false, false] rfl rfl (by kernel_rfl) (fun _ _ _ h => h) (Or.inl ⟨by rfl, ?_⟩) ?_ ?_
              rotate_left
              · intro w'
                go_simp
                with_reducible rfl
              rotate_left
              · simp only [Act.put, List.setIfInBounds_toArray, List.set_cons_zero, List.set_cons_succ, i64_w, i32_w]
                rfl
              refine pure_ (i := 2) (N := some 48) (v := ?_) (a' := ?_) #[true, true, true, false, false, false, false, false, false, false, false, false, false, false] rfl rfl (by kernel_rfl) (fun _ _ _ h => h) (Or.inl ⟨by rfl, ?_⟩) ?_ ?_
              rotate_left
              · intro w'
                go_simp
                with_reducible rfl
              rotate_left
              · simp only [Act.put, List.setIfInBounds_toArray, List.set_cons_zero, List.set_cons_succ, i64_w, i32_w]
                rfl
              refine pure_ (i := 6) (N := some 52) (v := ?_) (a' := ?_) #[true, true, true, false, false, false, true, false, false, false, false, false, false, false] rfl rfl (by kernel_rfl) (fun _ _ _ h => h) (Or.inl ⟨by rfl, ?_⟩) ?_ ?_
              rotate_left
              · intro w'
                go_simp
                with_reducible rfl
              rotate_left
              · simp only [Act.put, List.setIfInBounds_toArray, List.set_cons_zero, List.set_cons_succ, i64_w, i32_w]
                rfl
              refine pure_ (i := 7) (N := some 53) (v := ?_) (a' := ?_) #[true, true, true, false, false, false, true, true, false, false, false, false, false, false] rfl rfl (by kernel_rfl) (fun _ _ _ h => h) (Or.inl ⟨by rfl, ?_⟩) ?_ ?_
              rotate_left
              · intro w'
                go_simp
                with_reducible rfl
              rotate_left
              · simp only [Act.put, List.setIfInBounds_toArray, List.set_cons_zero, List.set_cons_succ, i64_w, i32_w]
                rfl
              refine pure_ (i := 8) (N := some 54) (v := ?_) (a' := ?_) #[true, true, true, false, false, false, true, true, true, false, false, false, false, false] rfl rfl (by kernel_rfl) (fun _ _ _ h => h) (Or.inl ⟨by rfl, ?_⟩) ?_ ?_
              rotate_left
              · intro w'
                go_simp
                with_reducible rfl
              rotate_left
              · simp only [Act.put, List.setIfInBounds_toArray, List.set_cons_zero, List.set_cons_succ, i64_w, i32_w]
                rfl
              refine take_ (i := 3) (N := some 49) (v := ?_) (a' := ?_) #[true, true, true, true, false, false, true, true, true, false, false, false, false, false] rfl rfl (by kernel_rfl) (fun _ _ _ h => h) (Or.inl ⟨by rfl, ?_⟩) hHeld ?_ ?_
              rotate_left
              · intro w' _
                go_simp
                with_reducible rfl
              rotate_left
              · simp only [Act.put, List.setIfInBounds_toArray, List.set_cons_zero, List.set_cons_succ, i64_w, i32_w]
                rfl
              refine take_ (i := 9) (N := some 55) (v := ?_) (a' := ?_) #[true, true, true, true, false, false, true, true, true, true, false, false, false, false] rfl rfl (by kernel_rfl) (fun _ _ _ h => h) (Or.inl ⟨by rfl, ?_⟩) hHeld ?_ ?_
              rotate_left
              · intro w' _
                go_simp
                with_reducible rfl
              rotate_left
              · simp only [Act.put, List.setIfInBounds_toArray, List.set_cons_zero, List.set_cons_succ, i64_w, i32_w]
                rfl
              refine one_ (i := 4) (N := some 50) #[true, true, true, true, true, false, true, true, true, true, false, false, false, false] rfl rfl (by kernel_rfl) (by decide) (fun K hK => ?_)
              refine goes_ Try.func19 (by kernel_rfl) rfl #[.int .u8 (bt s ((i : Int) + 1))] (by rfl) rfl rfl (by simp only [List.map_toArray, List.map_cons, List.map_nil]; rfl) ?_
              with_reducible refine (digit_calls (bt s ((i : Int) + 1)) (bt_byte s _) _).mono ?_
              rintro e w2 ⟨rfl, rfl⟩
              refine ⟨_, rfl, ?_⟩
              refine hK.out _ _ trivial (fun hHeld => ?_)
              clear hK K
              refine norm_ (a' := ?_) ?_ ?_
              rotate_left
              · show Act.put _ (some 50) _ = _
                simp only [Act.put, List.setIfInBounds_toArray, List.set_cons_zero, List.set_cons_succ, i64_w, i32_w]
                rfl
              refine pure_ (i := 5) (N := some 51) (v := ?_) (a' := ?_) #[true, true, true, true, true, true, true, true, true, true, false, false, false, false] rfl rfl (by kernel_rfl) (fun _ _ _ h => h) (Or.inl ⟨by rfl, ?_⟩) ?_ ?_
              rotate_left
              · intro w'
                go_simp
                with_reducible rfl
              rotate_left
              · simp only [Act.put, List.setIfInBounds_toArray, List.set_cons_zero, List.set_cons_succ, i64_w, i32_w]
                rfl
              refine one_ (i := 10) (N := some 56) #[true, true, true, true, true, true, true, true, true, true, true, false, false, false] rfl rfl (by kernel_rfl) (by decide) (fun K hK => ?_)
              refine goes_ Try.func19 (by kernel_rfl) rfl #[.int .u8 (bt s ((i : Int) + 2))] (by rfl) rfl rfl (by simp only [List.map_toArray, List.map_cons, List.map_nil]; rfl) ?_
              with_reducible refine (digit_calls (bt s ((i : Int) + 2)) (bt_byte s _) _).mono ?_
              rintro e w2 ⟨rfl, rfl⟩
              refine ⟨_, rfl, ?_⟩
              refine hK.out _ _ trivial (fun hHeld => ?_)
              clear hK K
              refine norm_ (a' := ?_) ?_ ?_
              rotate_left
              · show Act.put _ (some 56) _ = _
                simp only [Act.put, List.setIfInBounds_toArray, List.set_cons_zero, List.set_cons_succ, i64_w, i32_w]
                rfl
              refine pure_ (i := 11) (N := some 57) (v := ?_) (a' := ?_) #[true, true, true, true, true, true, true, true, true, true, true, true, false, false] rfl rfl (by kernel_rfl) (fun _ _ _ h => h) (Or.inl ⟨by rfl, ?_⟩) ?_ ?_
              rotate_left
              · intro w'
                go_simp
                with_reducible rfl
              rotate_left
              · simp only [Act.put, List.setIfInBounds_toArray, List.set_cons_zero, List.set_cons_succ, i64_w, i32_w]
                rfl
              refine pure_ (i := 12) (N := some 58) (v := ?_) (a' := ?_) #[true, true, true, true, true, true, true, true, true, true, true, true, true, false] rfl rfl (by kernel_rfl) (fun _ _ _ h => h) (Or.inl ⟨by rfl, ?_⟩) ?_ ?_
              rotate_left
              · intro w'
                go_simp
                with_reducible rfl
              rotate_left
              · simp only [Act.put, List.setIfInBounds_toArray, List.set_cons_zero, List.set_cons_succ, i64_w, i32_w]
                rfl
              refine one_ (i := 13) (N := some 59) #[true, true, true, true, true, true, true, true, true, true, true, true, true, true] rfl rfl (by kernel_rfl) (by decide) (fun K hK => ?_)
              refine goes_ Try.func20 (by kernel_rfl) rfl #[.pointer (some ⟨w.heap.size, 0, none⟩), .int .u8 (IntKind.u8.wrap (Go.bits .or .i64 (wrap64 (dig (bt s ((i : Int) + 1)) * 16)) (dig (bt s ((i : Int) + 2)))))] (by rfl) rfl rfl (by simp only [List.map_toArray, List.map_cons, List.map_nil]; rfl) ?_
              with_reducible refine (Try.Builder_WriteByte w.heap.size w.heap.size (nums .u8 acc) _ _ (isb_drew HB.out) HL2.out (below_size (below_drew1 HW.out))).mono ?_
              rintro e w3 ⟨rfl, hb, hw⟩
              refine ⟨_, rfl, ?_⟩
              rw [HT.out] at hb
              have HB2 := Aside0.mk (isb (bld_snoc hb))
              have HW2 := Aside0.mk ((below_drew1 HW.out).trans hw)
              clear hb hw
              refine hK.out _ _ trivial (fun hHeld => ?_)
              clear hK K
              refine norm_ (a' := ?_) ?_ ?_
              rotate_left
              · show Act.put _ (some 59) _ = _
                simp only [Act.put, List.setIfInBounds_toArray, List.set_cons_zero, List.set_cons_succ, i64_w, i32_w]
                rfl
              refine done_ (by kernel_rfl) ?_

              clear q1 q2 q3 q4 q5 q6
              go_wp2
              go_roundg (gk - 1)
              case measure => have := HK.out; omega
              case rel => exact ⟨acc ++ [16 * dig (bt s ((i : Int) + 1)) + dig (bt s ((i : Int) + 2))], i + 3, by go_num, ⟨by have := HK.out; omega⟩, ⟨HE.out⟩, HX, ⟨by have := HL.out; simp; omega⟩, HB2, HW2⟩
      · rw [if_neg h37] at step
        have e37 : (bt s i == 37) = false := by simpa using h37
        have hwb := fun (x : Int) => Try.Builder_WriteByte w.heap.size w.heap.size (nums .u8 acc) x wr HB.out (by have := HL.out; simp only [nums_length]; omega) (below_size HW.out)
        have HWB := Aside0.mk hwb
        clear hwb h37
        by_cases hp : true = true ∧ bt s i = 43
        · rw [if_pos hp] at step
          have HE := Aside0.mk step
          obtain ⟨hp1, hp2⟩ := hp
          have e43 : (bt s i == 43) = true := by simpa using hp2
          clear step hp2
          go_wp2_with (go_at_call 20; refine (HWB.out _).mono ?_; rintro e w' ⟨rfl, hb, hw⟩; have HB2 := Aside0.mk (isb (bld_snoc hb)); have HW2 := Aside0.mk (HW.out.trans hw); clear hb hw)
          go_roundg (gk - 1)
          case measure => have := HK.out; omega
          case rel => exact ⟨acc ++ [32], i + 1, by go_num, ⟨by have := HK.out; omega⟩, ⟨HE.out⟩, HN, ⟨by have := HL.out; simp; omega⟩, HB2, HW2⟩
        · rw [if_neg hp] at step
          have HE := Aside0.mk step
          have e43 : (true && (bt s i == 43)) = false := by rw [Bool.eq_false_iff]; intro h; rw [Bool.and_eq_true] at h; exact hp ⟨h.1, by simpa using h.2⟩
          clear step
          replace e43 : (bt s i == 43) = false := by simpa using e43
          clear hp
          go_wp2_with (go_at_call 20; refine (HWB.out _).mono ?_; rintro e w' ⟨rfl, hb, hw⟩; have HB2 := Aside0.mk (isb (bld_snoc hb)); have HW2 := Aside0.mk (HW.out.trans hw); clear hb hw)
          go_roundg (gk - 1)
          case measure => have := HK.out; omega
          case rel => exact ⟨acc ++ [bt s i], i + 1, by go_num, ⟨by have := HK.out; omega⟩, ⟨HE.out⟩, HC, ⟨by have := HL.out; simp; omega⟩, HB2, HW2⟩
    · have hi0 : decide ((i : Int) < (s.size : Int)) = false := decide_eq_false (by omega)
      have hi1 : decide (i < s.size) = false := decide_eq_false hi
      have HE := Aside0.mk (HD.out.symm.trans (decA_end true s i (by omega) acc i))
      have hst := Try.Builder_String_any w.heap.size w.heap.size (acc.map fun x => UInt8.ofNat x.toNat) wr (by rw [← nums_cells HA.out]; exact HB.out) (below_size HW.out)
      rw [str_cells] at hst
      have HST := Aside0.mk hst
      clear hst
      go_wp2_with (go_at_call 21; refine HST.out.mono ?_; rintro e w' ⟨rfl, hb⟩; have HW2 := Aside0.mk (HW.out.trans hb); clear hb)
      go_ret3
      exact ⟨ret3 (by rw [show (decodeR s true).1 = strOfNums R.1 from by rw [HR.out]; rfl, HE.out]) (by rw [show (decodeR s true).2 = R.2 from by rw [HR.out]; rfl, HE.out]) (by rw [show (decodeR s true).2 = R.2 from by rw [HR.out]; rfl, HE.out]), HW2.out⟩
set_option maxHeartbeats 8000000 in
set_option maxRecDepth 100000 in
theorem decode_false (s : ByteArray) (w : World) (hs : s.size ≤ 140737488351232) :
    Calls Try.prog 8 #[.string s, .bool false] w fun e w' => e = .returned (.tuple #[.string (decodeR s false).1, .int .i64 (decodeR s false).2.1, .int .i64 (decodeR s false).2.2]) ∧ Below w.heap.size w w' := by
  obtain ⟨R, hR⟩ : ∃ R, R = decL false (bytesOf s) := ⟨_, rfl⟩
  have HR := Aside0.mk hR
  have HF := Aside0.mk (fresh w)
  have HS0 := Aside0.mk hs
  clear hR hs
  go_enter Try.func8, Try.ntmps8
  go_wp2
  go_loopg [8] (s.size + 2) (fun kq v8 w' => ∃ (acc : List Int) (i : Nat), v8 = .int .i64 (i : Int) ∧ Aside0 (s.size + 1 ≤ kq + i ∧ i ≤ s.size) ∧ Aside0 (decA false ((bytesOf s).drop i) 0 acc i = R) ∧ Aside0 (∀ x ∈ acc, isByte x) ∧ Aside0 (acc.length ≤ i) ∧ Aside0 (Lib.IsBuilder 41 5 w.heap.size w.heap.size (nums .u8 acc) w') ∧ Aside0 (Below w.heap.size w w'))
  case atStart => exact ⟨[], 0, rfl, ⟨by omega⟩, ⟨by rw [HR.out]; rfl⟩, ⟨by intro x hx; cases hx⟩, ⟨by simp⟩, HF, ⟨below_alloc (Below.refl _ _) _⟩⟩
  case round =>
    obtain ⟨acc, i, rfl, HK, HD, HA, HL, HB, HW⟩ := hrel
    clear HF
    by_cases hi : i < s.size
    · have hi0 : decide ((i : Int) < (s.size : Int)) = true := decide_eq_true (by omega)
      have hi1 : decide (i < s.size) = true := decide_eq_true hi
      have hi2 : 0 ≤ (i : Int) := by omega
      have hi3 : (i : Int) < (s.size : Int) := by omega
      have hsz : (s.size : Int) ≤ 140737488351232 := by have := HS0.out; omega
      have hx0 : ∀ h : i < s.size, ((s[i]'h).toNat : Int) = bt s (i : Int) := fun h => by have := bt_at s (i : Int) (by simpa using h); simpa using this
      have HN := Aside0.mk (byte_snoc HA.out (y := 32) (by unfold isByte; omega))
      have HC := Aside0.mk (byte_snoc HA.out (bt_byte s i))
      have step := HD.out
      rw [decA_at false s i hi] at step
      by_cases h37 : bt s i = 37
      · rw [if_pos h37] at step
        have e37 : (bt s i == 37) = true := by simpa using h37
        by_cases b1 : (i : Int) + 2 ≥ s.size
        · rw [if_pos (.inl b1)] at step
          have HE := Aside0.mk step
          clear step h37 hi3
          have b3 : decide ((s.size : Int) ≤ (i : Int) + 2) = true := decide_eq_true b1
          have b4 : decide (s.size ≤ i + 2) = true := decide_eq_true (by omega)
          go_wp2
          go_ret3
          exact ⟨ret3 (by rw [show (decodeR s false).1 = strOfNums R.1 from by rw [HR.out]; rfl, ← HE.out]; rfl) (by rw [show (decodeR s false).2 = R.2 from by rw [HR.out]; rfl, ← HE.out]) (by rw [show (decodeR s false).2 = R.2 from by rw [HR.out]; rfl, ← HE.out]), HW.out⟩
        · have b3 : decide ((s.size : Int) ≤ (i : Int) + 2) = false := decide_eq_false b1
          have b4 : decide (s.size ≤ i + 2) = false := decide_eq_false (by omega)
          have b5 : (i : Int) + 2 < (s.size : Int) := by omega
          have b6 : (i : Int) + 1 < (s.size : Int) := by omega
          have hx1 : ∀ h : i + 1 < s.size, ((s[i + 1]'h).toNat : Int) = bt s ((i : Int) + 1) := fun h => bt_at s ((i : Int) + 1) (by have e : ((i : Int) + 1).toNat = i + 1 := by omega
                                                                                                                                     rw [e]; exact h)
          have hx2 : ∀ h : i + 2 < s.size, ((s[i + 2]'h).toNat : Int) = bt s ((i : Int) + 2) := fun h => bt_at s ((i : Int) + 2) (by have e : ((i : Int) + 2).toNat = i + 2 := by omega
                                                                                                                                     rw [e]; exact h)
          by_cases b2 : dig (bt s ((i : Int) + 1)) < 0
          · rw [if_pos (.inr (.inl b2))] at step
            have HE := Aside0.mk step
            clear step h37 b1
            have b7 : decide (dig (bt s ((i : Int) + 1)) < 0) = true := decide_eq_true b2
            clear b2
            go_wp2_with (go_at_call 19; refine (digit_calls (bt s _) (bt_byte s _) _).mono ?_; rintro e w' ⟨rfl, rfl⟩)
            go_ret3
            exact ⟨ret3 (by rw [show (decodeR s false).1 = strOfNums R.1 from by rw [HR.out]; rfl, ← HE.out]; rfl) (by rw [show (decodeR s false).2 = R.2 from by rw [HR.out]; rfl, ← HE.out]) (by rw [show (decodeR s false).2 = R.2 from by rw [HR.out]; rfl, ← HE.out]), HW.out⟩
          · have b7 : decide (dig (bt s ((i : Int) + 1)) < 0) = false := decide_eq_false b2
            have d1 := dig_range (bt s ((i : Int) + 1))
            have d2 := dig_range (bt s ((i : Int) + 2))
            by_cases b8 : dig (bt s ((i : Int) + 2)) < 0
            · rw [if_pos (.inr (.inr b8))] at step
              have HE := Aside0.mk step
              clear step h37 b1
              have b9 : decide (dig (bt s ((i : Int) + 2)) < 0) = true := decide_eq_true b8
              clear b2 b8
              go_wp2_with (go_at_call 19; refine (digit_calls (bt s _) (bt_byte s _) _).mono ?_; rintro e w' ⟨rfl, rfl⟩)
              go_ret3
              exact ⟨ret3 (by rw [show (decodeR s false).1 = strOfNums R.1 from by rw [HR.out]; rfl, ← HE.out]; rfl) (by rw [show (decodeR s false).2 = R.2 from by rw [HR.out]; rfl, ← HE.out]) (by rw [show (decodeR s false).2 = R.2 from by rw [HR.out]; rfl, ← HE.out]), HW.out⟩
            · rw [if_neg (by rintro (h | h | h) <;> omega)] at step
              have HE := Aside0.mk step
              have b9 : decide (dig (bt s ((i : Int) + 2)) < 0) = false := decide_eq_false b8
              have HT := Aside0.mk (two_digits (a := dig (bt s ((i : Int) + 1))) (b := dig (bt s ((i : Int) + 2))) (by omega) (by omega))
              have HX := Aside0.mk (byte_snoc HA.out (y := 16 * dig (bt s ((i : Int) + 1)) + dig (bt s ((i : Int) + 2))) (by unfold isByte; omega))
              clear step h37 b1
              go_wp2_with (go_at_call 19; refine (digit_calls (bt s _) (bt_byte s _) _).mono ?_; rintro e w' ⟨rfl, rfl⟩)
              have HL2 := Aside0.mk (show (nums .u8 acc).length + 1 ≤ 140737488355328 from by have := HL.out; simp only [nums_length]; omega)
              have q1 : wrap64 ((i : Int) + 1) = (i : Int) + 1 := w64 (by omega)
              have q2 : wrap64 ((i : Int) + 2) = (i : Int) + 2 := w64 (by omega)
              have q3 : 0 ≤ (i : Int) + 1 := by omega
              have q4 : 0 ≤ (i : Int) + 2 := by omega
              have q5 : ((i : Int) + 1).toNat = i + 1 := by omega
              have q6 : ((i : Int) + 2).toNat = i + 2 := by omega
              refine start_ (n := 14) (S := fun w' => True) (ds := []) #[false, false, false, false, false, false, false, false, false, false, false, false, false, false] (by kernel_rfl) rfl rfl trivial (fun hHeld => ?_)
              refine pure_ (i := 0) (N := some 46) (v := ?_) (a' := ?_) #[true, false, false, false, false, false, false, false, false, false, false, false, false, false] rfl rfl (by kernel_rfl) (fun _ _ _ h => h) (Or.inl ⟨by rfl, ?_⟩) ?_ ?_
              rotate_left
              · intro w'
                go_simp
                with_reducible rfl
              rotate_left
              · simp only [Act.put, List.setIfInBounds_toArray, List.set_cons_zero, List.set_cons_succ, i64_w, i32_w]
                rfl
              refine pure_ (i := 1) (N := some 47) (v := ?_) (a' := ?_) #[true, true, false, false, false, false, false, false, false, false, false, false, false, false] rfl rfl (by kernel_rfl) (fun _ _ _ h => h) (Or.inl ⟨by rfl, ?_⟩) ?_ ?_
              rotate_left
              · intro w'
                go_simp
                with_reducible rfl
              rotate_left
              · simp only [Act.put, List.setIfInBounds_toArray, List.set_cons_zero, List.set_cons_succ, i64_w, i32_w]
                rfl
              refine pure_ (i := 2) (N := some 48) (v := ?_) (a' := ?_) #[true, true, true, false, false, false, false, false, false, false, false, false, false, false] rfl rfl (by kernel_rfl) (fun _ _ _ h => h) (Or.inl ⟨by rfl, ?_⟩) ?_ ?_
              rotate_left
              · intro w'
                go_simp
                with_reducible rfl
              rotate_left
              · simp only [Act.put, List.setIfInBounds_toArray, List.set_cons_zero, List.set_cons_succ, i64_w, i32_w]
                rfl
              refine pure_ (i := 6) (N := some 52) (v := ?_) (a' := ?_) #[true, true, true, false, false, false, true, false, false, false, false, false, false, false] rfl rfl (by kernel_rfl) (fun _ _ _ h => h) (Or.inl ⟨by rfl, ?_⟩) ?_ ?_
              rotate_left
              · intro w'
                go_simp
                with_reducible rfl
              rotate_left
              · simp only [Act.put, List.setIfInBounds_toArray, List.set_cons_zero, List.set_cons_succ, i64_w, i32_w]
                rfl
              refine pure_ (i := 7) (N := some 53) (v := ?_) (a' := ?_) #[true, true, true, false, false, false, true, true, false, false, false, false, false, false] rfl rfl (by kernel_rfl) (fun _ _ _ h => h) (Or.inl ⟨by rfl, ?_⟩) ?_ ?_
              rotate_left
              · intro w'
                go_simp
                with_reducible rfl
              rotate_left
              · simp only [Act.put, List.setIfInBounds_toArray, List.set_cons_zero, List.set_cons_succ, i64_w, i32_w]
                rfl
              refine pure_ (i := 8) (N := some 54) (v := ?_) (a' := ?_) #[true, true, true, false, false, false, true, true, true, false, false, false, false, false] rfl rfl (by kernel_rfl) (fun _ _ _ h => h) (Or.inl ⟨by rfl, ?_⟩) ?_ ?_
              rotate_left
              · intro w'
                go_simp
                with_reducible rfl
              rotate_left
              · simp only [Act.put, List.setIfInBounds_toArray, List.set_cons_zero, List.set_cons_succ, i64_w, i32_w]
                rfl
              refine take_ (i := 3) (N := some 49) (v := ?_) (a' := ?_) #[true, true, true, true, false, false, true, true, true, false, false, false, false, false] rfl rfl (by kernel_rfl) (fun _ _ _ h => h) (Or.inl ⟨by rfl, ?_⟩) hHeld ?_ ?_
              rotate_left
              · intro w' _
                go_simp
                with_reducible rfl
              rotate_left
              · simp only [Act.put, List.setIfInBounds_toArray, List.set_cons_zero, List.set_cons_succ, i64_w, i32_w]
                rfl
              refine take_ (i := 9) (N := some 55) (v := ?_) (a' := ?_) #[true, true, true, true, false, false, true, true, true, true, false, false, false, false] rfl rfl (by kernel_rfl) (fun _ _ _ h => h) (Or.inl ⟨by rfl, ?_⟩) hHeld ?_ ?_
              rotate_left
              · intro w' _
                go_simp
                with_reducible rfl
              rotate_left
              · simp only [Act.put, List.setIfInBounds_toArray, List.set_cons_zero, List.set_cons_succ, i64_w, i32_w]
                rfl
              refine one_ (i := 4) (N := some 50) #[true, true, true, true, true, false, true, true, true, true, false, false, false, false] rfl rfl (by kernel_rfl) (by decide) (fun K hK => ?_)
              refine goes_ Try.func19 (by kernel_rfl) rfl #[.int .u8 (bt s ((i : Int) + 1))] (by rfl) rfl rfl (by simp only [List.map_toArray, List.map_cons, List.map_nil]; rfl) ?_
              with_reducible refine (digit_calls (bt s ((i : Int) + 1)) (bt_byte s _) _).mono ?_
              rintro e w2 ⟨rfl, rfl⟩
              refine ⟨_, rfl, ?_⟩
              refine hK.out _ _ trivial (fun hHeld => ?_)
              clear hK K
              refine norm_ (a' := ?_) ?_ ?_
              rotate_left
              · show Act.put _ (some 50) _ = _
                simp only [Act.put, List.setIfInBounds_toArray, List.set_cons_zero, List.set_cons_succ, i64_w, i32_w]
                rfl
              refine pure_ (i := 5) (N := some 51) (v := ?_) (a' := ?_) #[true, true, true, true, true, true, true, true, true, true, false, false, false, false] rfl rfl (by kernel_rfl) (fun _ _ _ h => h) (Or.inl ⟨by rfl, ?_⟩) ?_ ?_
              rotate_left
              · intro w'
                go_simp
                with_reducible rfl
              rotate_left
              · simp only [Act.put, List.setIfInBounds_toArray, List.set_cons_zero, List.set_cons_succ, i64_w, i32_w]
                rfl
              refine one_ (i := 10) (N := some 56) #[true, true, true, true, true, true, true, true, true, true, true, false, false, false] rfl rfl (by kernel_rfl) (by decide) (fun K hK => ?_)
              refine goes_ Try.func19 (by kernel_rfl) rfl #[.int .u8 (bt s ((i : Int) + 2))] (by rfl) rfl rfl (by simp only [List.map_toArray, List.map_cons, List.map_nil]; rfl) ?_
              with_reducible refine (digit_calls (bt s ((i : Int) + 2)) (bt_byte s _) _).mono ?_
              rintro e w2 ⟨rfl, rfl⟩
              refine ⟨_, rfl, ?_⟩
              refine hK.out _ _ trivial (fun hHeld => ?_)
              clear hK K
              refine norm_ (a' := ?_) ?_ ?_
              rotate_left
              · show Act.put _ (some 56) _ = _
                simp only [Act.put, List.setIfInBounds_toArray, List.set_cons_zero, List.set_cons_succ, i64_w, i32_w]
                rfl
              refine pure_ (i := 11) (N := some 57) (v := ?_) (a' := ?_) #[true, true, true, true, true, true, true, true, true, true, true, true, false, false] rfl rfl (by kernel_rfl) (fun _ _ _ h => h) (Or.inl ⟨by rfl, ?_⟩) ?_ ?_
              rotate_left
              · intro w'
                go_simp
                with_reducible rfl
              rotate_left
              · simp only [Act.put, List.setIfInBounds_toArray, List.set_cons_zero, List.set_cons_succ, i64_w, i32_w]
                rfl
              refine pure_ (i := 12) (N := some 58) (v := ?_) (a' := ?_) #[true, true, true, true, true, true, true, true, true, true, true, true, true, false] rfl rfl (by kernel_rfl) (fun _ _ _ h => h) (Or.inl ⟨by rfl, ?_⟩) ?_ ?_
              rotate_left
              · intro w'
                go_simp
                with_reducible rfl
              rotate_left
              · simp only [Act.put, List.setIfInBounds_toArray, List.set_cons_zero, List.set_cons_succ, i64_w, i32_w]
                rfl
              refine one_ (i := 13) (N := some 59) #[true, true, true, true, true, true, true, true, true, true, true, true, true, true] rfl rfl (by kernel_rfl) (by decide) (fun K hK => ?_)
              refine goes_ Try.func20 (by kernel_rfl) rfl #[.pointer (some ⟨w.heap.size, 0, none⟩), .int .u8 (IntKind.u8.wrap (Go.bits .or .i64 (wrap64 (dig (bt s ((i : Int) + 1)) * 16)) (dig (bt s ((i : Int) + 2)))))] (by rfl) rfl rfl (by simp only [List.map_toArray, List.map_cons, List.map_nil]; rfl) ?_
              with_reducible refine (Try.Builder_WriteByte w.heap.size w.heap.size (nums .u8 acc) _ _ (isb_drew HB.out) HL2.out (below_size (below_drew1 HW.out))).mono ?_
              rintro e w3 ⟨rfl, hb, hw⟩
              refine ⟨_, rfl, ?_⟩
              rw [HT.out] at hb
              have HB2 := Aside0.mk (isb (bld_snoc hb))
              have HW2 := Aside0.mk ((below_drew1 HW.out).trans hw)
              clear hb hw
              refine hK.out _ _ trivial (fun hHeld => ?_)
              clear hK K
              refine norm_ (a' := ?_) ?_ ?_
              rotate_left
              · show Act.put _ (some 59) _ = _
                simp only [Act.put, List.setIfInBounds_toArray, List.set_cons_zero, List.set_cons_succ, i64_w, i32_w]
                rfl
              refine done_ (by kernel_rfl) ?_

              clear q1 q2 q3 q4 q5 q6
              go_wp2
              go_roundg (gk - 1)
              case measure => have := HK.out; omega
              case rel => exact ⟨acc ++ [16 * dig (bt s ((i : Int) + 1)) + dig (bt s ((i : Int) + 2))], i + 3, by go_num, ⟨by have := HK.out; omega⟩, ⟨HE.out⟩, HX, ⟨by have := HL.out; simp; omega⟩, HB2, HW2⟩
      · rw [if_neg h37] at step
        have e37 : (bt s i == 37) = false := by simpa using h37
        have hwb := fun (x : Int) => Try.Builder_WriteByte w.heap.size w.heap.size (nums .u8 acc) x wr HB.out (by have := HL.out; simp only [nums_length]; omega) (below_size HW.out)
        have HWB := Aside0.mk hwb
        clear hwb h37
        by_cases hp : false = true ∧ bt s i = 43
        · cases hp.1
        · rw [if_neg hp] at step
          have HE := Aside0.mk step
          have e43 : (false && (bt s i == 43)) = false := by rw [Bool.eq_false_iff]; intro h; rw [Bool.and_eq_true] at h; exact hp ⟨h.1, by simpa using h.2⟩
          clear step
          clear hp e43
          go_wp2_with (go_at_call 20; refine (HWB.out _).mono ?_; rintro e w' ⟨rfl, hb, hw⟩; have HB2 := Aside0.mk (isb (bld_snoc hb)); have HW2 := Aside0.mk (HW.out.trans hw); clear hb hw)
          go_roundg (gk - 1)
          case measure => have := HK.out; omega
          case rel => exact ⟨acc ++ [bt s i], i + 1, by go_num, ⟨by have := HK.out; omega⟩, ⟨HE.out⟩, HC, ⟨by have := HL.out; simp; omega⟩, HB2, HW2⟩
    · have hi0 : decide ((i : Int) < (s.size : Int)) = false := decide_eq_false (by omega)
      have hi1 : decide (i < s.size) = false := decide_eq_false hi
      have HE := Aside0.mk (HD.out.symm.trans (decA_end false s i (by omega) acc i))
      have hst := Try.Builder_String_any w.heap.size w.heap.size (acc.map fun x => UInt8.ofNat x.toNat) wr (by rw [← nums_cells HA.out]; exact HB.out) (below_size HW.out)
      rw [str_cells] at hst
      have HST := Aside0.mk hst
      clear hst
      go_wp2_with (go_at_call 21; refine HST.out.mono ?_; rintro e w' ⟨rfl, hb⟩; have HW2 := Aside0.mk (HW.out.trans hb); clear hb)
      go_ret3
      exact ⟨ret3 (by rw [show (decodeR s false).1 = strOfNums R.1 from by rw [HR.out]; rfl, HE.out]) (by rw [show (decodeR s false).2 = R.2 from by rw [HR.out]; rfl, HE.out]) (by rw [show (decodeR s false).2 = R.2 from by rw [HR.out]; rfl, HE.out]), HW2.out⟩
theorem decode_calls (s : ByteArray) (plus : Bool) (w : World) (hs : s.size ≤ 140737488351232) :
    Calls Try.prog 8 #[.string s, .bool plus] w fun e w' => e = .returned (.tuple #[.string (decodeR s plus).1, .int .i64 (decodeR s plus).2.1, .int .i64 (decodeR s plus).2.2]) ∧ Below w.heap.size w w' := by
  cases plus
  · exact decode_false s w hs
  · exact decode_true s w hs
end Go.Proofs.Ytkaacdfikaggfaa.UriD
