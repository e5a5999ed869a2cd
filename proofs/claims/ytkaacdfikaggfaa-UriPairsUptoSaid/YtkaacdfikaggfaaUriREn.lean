/- The reference's Encode (and Plain) by hand: the print loses the index into a constant text. -/
import Derived.Test.YtkaacdfikaggfaaUriEn
import Derived.Test.YtkaacdfikaggfaaWRepsOne
namespace Go.Proofs.Ytkaacdfikaggfaa.UriD
open Go.RowKit Go.Proofs.YtkaacdfikaggfaaW.PrintWords Go.Proofs.YtkaacdfikaggfaaW.PrintLast Go.Proofs.YtkaacdfikaggfaaW.PrintMore Go.Proofs.Ytkaacdfikaggfaa.Bs Go.Proofs.Ytkaacdfikaggfaa.UriF
set_option linter.unusedVariables false
set_option linter.unusedSimpArgs false
set_option maxHeartbeats 4000000 in
set_option maxRecDepth 100000 in
theorem rplain_calls (c : Int) (hc : isByte c) (w : World) : Calls Try.prog 25 #[.int .u8 c] w fun e w' => e = .returned (.bool (plainB c)) ∧ w' = w := by
  unfold isByte at hc
  obtain ⟨h0, h1⟩ := hc
  go_enter Try.func25, Try.ntmps25
  go_wp2
  all_goals go_ret
  all_goals refine ⟨ret_bool ?_, rfl⟩
  all_goals (rw [Bool.eq_iff_iff]; simp only [plainB, Bool.or_eq_true, decide_eq_true_eq, true_iff, eq_self, beq_iff_eq]; first | omega | simp)
theorem u8w {c : Int} (hc : isByte c) : IntKind.u8.wrap c = c := all_bytes (p := fun c => IntKind.u8.wrap c = c) (by decide +kernel) hc
theorem info5 : (Try.prog.info? 5).map (fun i => (i.zero, i.size, i.bytes)) = some (some (.int .u8 0), 1, 1) := by kernel_rfl
set_option maxHeartbeats 8000000 in
set_option maxRecDepth 100000 in
theorem rencode_calls (s : ByteArray) (w : World) (hs : 3 * s.size ≤ 140737488351232) :
    Calls Try.prog 11 #[.string s] w fun e w' => e = .returned (.string (strOfNums (encL (bytesOf s)))) ∧ Below w.heap.size w w' := by
  have HS0 := Aside0.mk hs
  clear hs
  go_enter Try.func11, Try.ntmps11
  go_wp2
  go_loopg [4, 5] (s.size + 2) (fun kq v4 v5 w' => ∃ (i : Nat) (acc : List Int), v5 = .int .i64 (i : Int) ∧ Aside0 (s.size + 1 ≤ kq + i ∧ i ≤ s.size) ∧ Aside0 (acc = encL ((bytesOf s).take i)) ∧ Aside0 (Kd.R (Kd.int .u8) 5 w' w.heap.size (fun _ => True) v4 acc) ∧ Aside0 (Below w.heap.size w w'))
  case atStart => exact ⟨0, [], rfl, ⟨by omega⟩, ⟨rfl⟩, ⟨Kd.R_nil _ _ _ _ _⟩, ⟨Below.refl _ _⟩⟩
  case round =>
    obtain ⟨i, acc, rfl, HK, HA, HO, HB⟩ := hrel
    by_cases hi : i < s.size
    · have hi0 : decide ((i : Int) < (s.size : Int)) = true := decide_eq_true (by omega)
      have hi1 : decide (i < s.size) = true := decide_eq_true hi
      have hi2 : 0 ≤ (i : Int) := by omega
      have hi3 : (i : Int) < (s.size : Int) := by omega
      have hsz : (s.size : Int) ≤ 140737488351232 := by have := HS0.out; omega
      have hx0 : ∀ h : i < s.size, ((s[i]'h).toNat : Int) = bt s (i : Int) := fun h => by have := bt_at s (i : Int) (by simpa using h); simpa using this
      have HN := Aside0.mk (enc_next s i hi)
      have HL := Aside0.mk (show acc.length ≤ 3 * i from by rw [HA.out]; exact enc_len s i)
      obtain ⟨u4, eu4⟩ : ∃ u, u = u4 := ⟨_, rfl⟩
      subst eu4
      cases hp : plainB (bt s i) with
      | true =>
        have HE := Aside0.mk (show acc ++ [bt s i] = encL ((bytesOf s).take (i + 1)) from by rw [HN.out, HA.out, enc1, if_pos hp])
        have HP := Aside0.mk hp
        clear hp
        go_wp2_with (first | (go_at_call 25; refine (rplain_calls (bt s _) (bt_byte s _) _).mono ?_; rw [HP.out]; rintro e w' ⟨rfl, rfl⟩) | (at_builtin; refine Kd.R_append (Kd.int .u8) (w0 := w) w.heap.size rfl (.tmp 16) (.tmp 20) 34 5 (.int .u8 0) 1 rfl Try.underlying34 info5 rfl (by decide) (by omega) u4 acc (bt s i) [.int .u8 (bt s i)] (fun _ => True) (fun _ => False) rfl rfl ?aP (fun _ hk => hk.elim) ?aF ?aO ?aB ?aS ?aL ?_; (case aP => exact rfl); (case aB => exact HB.out); (case aF => exact (fun _ _ => trivial)); (case aO => exact HO.out); (case aS => exact (below_size HB.out)); (case aL => have := HL.out; have := HS0.out; omega); intro v1 w9 ho hb hg hat; have HB2 := Aside0.mk hb; have HO2 := Aside0.mk ho; clear ho hb hg hat))
        go_roundg (gk - 1)
        case measure => have := HK.out; omega
        case rel => exact ⟨i + 1, acc ++ [bt s i], by go_num, ⟨by have := HK.out; omega⟩, HE, HO2, HB2⟩
      | false =>
        have HE := Aside0.mk (show acc ++ [37, hexd (bt s i / 16), hexd (bt s i % 16)] = encL ((bytesOf s).take (i + 1)) from by rw [HN.out, HA.out, enc1, if_neg (by rw [hp]; decide)])
        have HP := Aside0.mk hp
        clear hp
        go_wp2_with (first | (go_at_call 25; refine (rplain_calls (bt s _) (bt_byte s _) _).mono ?_; rw [HP.out]; rintro e w' ⟨rfl, rfl⟩))
        rename_i wx
        have hb := bt_byte s (i : Int)
        unfold isByte at hb
        have q1 : 0 ≤ bt s i / 16 := by omega
        have q2 : bt s i / 16 < 16 := by omega
        have q3 : 0 ≤ bt s i % 16 := by omega
        have q4 : bt s i % 16 < 16 := by omega
        have q6 := hex_at q1 q2
        have q7 := hex_at q3 q4
        have q8 : (bt s i).tdiv 16 = bt s i / 16 := Int.tdiv_eq_ediv_of_nonneg hb.1
        have q9 : (bt s i).tmod 16 = bt s i % 16 := Int.tmod_eq_emod_of_nonneg hb.1
        have q10 : IntKind.u8.wrap (bt s i / 16) = bt s i / 16 := u8w (by unfold isByte; omega)
        have q11 : IntKind.u8.wrap (bt s i % 16) = bt s i % 16 := u8w (by unfold isByte; omega)
        clear hb
        refine start_ (n := 16) (S := fun w' => True) (ds := []) #[false, false, false, false, false, false, false, false, false, false, false, false, false, false, false, false] (by kernel_rfl) rfl rfl trivial (fun hHeld => ?_)
        refine pure_ (i := 0) (N := some 22) (v := ?_) (a' := ?_) #[true, false, false, false, false, false, false, false, false, false, false, false, false, false, false, false] rfl rfl (by kernel_rfl) (fun _ _ _ h => h) (Or.inl ⟨by rfl, ?_⟩) ?_ ?_
        rotate_left
        · intro w'
          go_simp
          with_reducible rfl
        rotate_left
        · simp only [Act.put, List.setIfInBounds_toArray, List.set_cons_zero, List.set_cons_succ, i64_w, i32_w]
          rfl
        refine pure_ (i := 1) (N := some 23) (v := ?_) (a' := ?_) #[true, true, false, false, false, false, false, false, false, false, false, false, false, false, false, false] rfl rfl (by kernel_rfl) (fun _ _ _ h => h) (Or.inl ⟨by rfl, ?_⟩) ?_ ?_
        rotate_left
        · intro w'
          go_simp
          with_reducible rfl
        rotate_left
        · simp only [Act.put, List.setIfInBounds_toArray, List.set_cons_zero, List.set_cons_succ, i64_w, i32_w]
          rfl
        refine pure_ (i := 2) (N := some 24) (v := ?_) (a' := ?_) #[true, true, true, false, false, false, false, false, false, false, false, false, false, false, false, false] rfl rfl (by kernel_rfl) (fun _ _ _ h => h) (Or.inl ⟨by rfl, ?_⟩) ?_ ?_
        rotate_left
        · intro w'
          go_simp
          with_reducible rfl
        rotate_left
        · simp only [Act.put, List.setIfInBounds_toArray, List.set_cons_zero, List.set_cons_succ, i64_w, i32_w]
          rfl
        refine pure_ (i := 3) (N := some 25) (v := ?_) (a' := ?_) #[true, true, true, true, false, false, false, false, false, false, false, false, false, false, false, false] rfl rfl (by kernel_rfl) (fun _ _ _ h => h) (Or.inl ⟨by rfl, ?_⟩) ?_ ?_
        rotate_left
        · intro w'
          go_simp
          with_reducible rfl
        rotate_left
        · simp only [Act.put, List.setIfInBounds_toArray, List.set_cons_zero, List.set_cons_succ, i64_w, i32_w]
          rfl
        refine pure_ (i := 7) (N := some 29) (v := ?_) (a' := ?_) #[true, true, true, true, false, false, false, true, false, false, false, false, false, false, false, false] rfl rfl (by kernel_rfl) (fun _ _ _ h => h) (Or.inl ⟨by rfl, ?_⟩) ?_ ?_
        rotate_left
        · intro w'
          go_simp
          with_reducible rfl
        rotate_left
        · simp only [Act.put, List.setIfInBounds_toArray, List.set_cons_zero, List.set_cons_succ, i64_w, i32_w]
          rfl
        refine pure_ (i := 8) (N := some 30) (v := ?_) (a' := ?_) #[true, true, true, true, false, false, false, true, true, false, false, false, false, false, false, false] rfl rfl (by kernel_rfl) (fun _ _ _ h => h) (Or.inl ⟨by rfl, ?_⟩) ?_ ?_
        rotate_left
        · intro w'
          go_simp
          with_reducible rfl
        rotate_left
        · simp only [Act.put, List.setIfInBounds_toArray, List.set_cons_zero, List.set_cons_succ, i64_w, i32_w]
          rfl
        refine pure_ (i := 9) (N := some 31) (v := ?_) (a' := ?_) #[true, true, true, true, false, false, false, true, true, true, false, false, false, false, false, false] rfl rfl (by kernel_rfl) (fun _ _ _ h => h) (Or.inl ⟨by rfl, ?_⟩) ?_ ?_
        rotate_left
        · intro w'
          go_simp
          with_reducible rfl
        rotate_left
        · simp only [Act.put, List.setIfInBounds_toArray, List.set_cons_zero, List.set_cons_succ, i64_w, i32_w]
          rfl
        refine take_ (i := 4) (N := some 26) (v := ?_) (a' := ?_) #[true, true, true, true, true, false, false, true, true, true, false, false, false, false, false, false] rfl rfl (by kernel_rfl) (fun _ _ _ h => h) (Or.inl ⟨by rfl, ?_⟩) hHeld ?_ ?_
        rotate_left
        · intro w' _
          go_simp
          with_reducible rfl
        rotate_left
        · simp only [Act.put, List.setIfInBounds_toArray, List.set_cons_zero, List.set_cons_succ, i64_w, i32_w]
          rfl
        refine pure_ (i := 5) (N := some 27) (v := ?_) (a' := ?_) #[true, true, true, true, true, true, false, true, true, true, false, false, false, false, false, false] rfl rfl (by kernel_rfl) (fun _ _ _ h => h) (Or.inl ⟨by rfl, ?_⟩) ?_ ?_
        rotate_left
        · intro w'
          go_simp
          with_reducible rfl
        rotate_left
        · simp only [Act.put, List.setIfInBounds_toArray, List.set_cons_zero, List.set_cons_succ, i64_w, i32_w]
          rfl
        refine take_ (i := 6) (N := some 28) (v := ?_) (a' := ?_) #[true, true, true, true, true, true, true, true, true, true, false, false, false, false, false, false] rfl rfl (by kernel_rfl) (fun _ _ _ h => h) (Or.inl ⟨by rfl, ?_⟩) hHeld ?_ ?_
        rotate_left
        · intro w' _
          go_simp
          with_reducible rfl
        rotate_left
        · simp only [Act.put, List.setIfInBounds_toArray, List.set_cons_zero, List.set_cons_succ, i64_w, i32_w]
          rfl
        refine take_ (i := 10) (N := some 32) (v := ?_) (a' := ?_) #[true, true, true, true, true, true, true, true, true, true, true, false, false, false, false, false] rfl rfl (by kernel_rfl) (fun _ _ _ h => h) (Or.inl ⟨by rfl, ?_⟩) hHeld ?_ ?_
        rotate_left
        · intro w' _
          go_simp
          with_reducible rfl
        rotate_left
        · simp only [Act.put, List.setIfInBounds_toArray, List.set_cons_zero, List.set_cons_succ, i64_w, i32_w]
          rfl
        refine pure_ (i := 11) (N := some 33) (v := ?_) (a' := ?_) #[true, true, true, true, true, true, true, true, true, true, true, true, false, false, false, false] rfl rfl (by kernel_rfl) (fun _ _ _ h => h) (Or.inl ⟨by rfl, ?_⟩) ?_ ?_
        rotate_left
        · intro w'
          go_simp
          with_reducible rfl
        rotate_left
        · simp only [Act.put, List.setIfInBounds_toArray, List.set_cons_zero, List.set_cons_succ, i64_w, i32_w]
          rfl
        refine take_ (i := 12) (N := some 34) (v := ?_) (a' := ?_) #[true, true, true, true, true, true, true, true, true, true, true, true, true, false, false, false] rfl rfl (by kernel_rfl) (fun _ _ _ h => h) (Or.inl ⟨by rfl, ?_⟩) hHeld ?_ ?_
        rotate_left
        · intro w' _
          go_simp
          with_reducible rfl
        rotate_left
        · simp only [Act.put, List.setIfInBounds_toArray, List.set_cons_zero, List.set_cons_succ, i64_w, i32_w]
          rfl
        refine one_ (i := 13) (N := some 35) #[true, true, true, true, true, true, true, true, true, true, true, true, true, true, false, false] rfl rfl (by kernel_rfl) (by decide) (fun K hK => ?_)
        refine Kd.R_lit_step (Kd.int .u8) _ 5 ?hg (N := 35) ?hd (xs := [37, hexd (bt s i / 16), hexd (bt s i % 16)]) (inner := [.int .u8 37, .int .u8 (hexd (bt s i / 16)), .int .u8 (hexd (bt s i % 16))]) (ok := fun _ => True) (okp := fun _ => True) ?hr ?hp (fun _ hk => hk) trivial (Below.refl _ _) (Nat.le_refl _) (by simp) ?_; (case hd => rfl); (case hg => rfl); (case hr => first | (go_simp; done) | (go_simp; rfl)); (case hp => exact (Reps.one (show Kd.M (Kd.int .u8) _ _ _ 37 [.int .u8 37] from rfl) (Reps.one (show Kd.M (Kd.int .u8) _ _ _ (hexd (bt s i / 16)) [.int .u8 (hexd (bt s i / 16))] from rfl) (Reps.one (show Kd.M (Kd.int .u8) _ _ _ (hexd (bt s i % 16)) [.int .u8 (hexd (bt s i % 16))] from rfl) (Reps.none _ _)))))
        intro v35 w22 ho3 hb hg_ hnew_
        clear hg_ hnew_
        have HO3 := Aside0.mk (Kd.R_lower (Kd.R_new' ho3 (Kd.R_lt (Kd.R_drew HO.out))) (below_size (below_drew1 HB.out)))
        have HO2 := Aside0.mk (Kd.R_elder' (Kd.R_drew HO.out) (Kd.R_base ho3) hb)
        have HB2 := Aside0.mk (below_step (below_drew1 HB.out) hb)
        clear hb ho3
        obtain ⟨Ao, co, eo⟩ := Kd.R_slice HO3.out
        subst eo
        refine hK.out _ _ trivial (fun hHeld => ?_)
        clear hK K
        refine norm_ (a' := ?_) ?_ ?_
        rotate_left
        · show Act.put _ (some 35) _ = _
          simp only [Act.put, List.setIfInBounds_toArray, List.set_cons_zero, List.set_cons_succ, i64_w, i32_w]
          rfl
        refine one_ (i := 14) (N := some 36) #[true, true, true, true, true, true, true, true, true, true, true, true, true, true, true, false] rfl rfl (by kernel_rfl) (by decide) (fun K hK => ?_)
        refine Kd.R_append_rows_step (Kd.int .u8) (w0 := w) w.heap.size (by rfl) (.tmp 22) (.tmp 35) 34 5 (.int .u8 0) 1 rfl Try.underlying34 info5 rfl (by decide) (by omega) u4 acc [37, hexd (bt s i / 16), hexd (bt s i % 16)] _ _ _ (fun k_ => some k_ ≠ (.slice Ao ([37, hexd (bt s i / 16), hexd (bt s i % 16)] : List Int).length co : Value).ownBlock) (fun _ => False) rfl rfl ?aO ?aR (fun _ _ h => h) (fun _ h => h.elim) ?aF ?aB ?aS ?aL ?_
        (case aR => exact (Kd.R_reads' HO3.out).2.2)
        (case aB => exact HB2.out)
        (case aF => exact (fun k_ hk => Kd.fresh' (Kd.R_lt HO3.out) k_ hk))
        (case aO => exact Kd.R_mono HO2.out (fun _ hk => hk.2))
        (case aS => exact below_size HB2.out)
        (case aL => have := HL.out; have := HS0.out; simp only [List.length_cons, List.length_nil]; omega)
        intro v1 w24 ho hb hg hat
        have HB3 := Aside0.mk hb
        have HOf := Aside0.mk ho
        clear ho hb hg hat
        refine hK.out _ _ trivial (fun hHeld => ?_)
        clear hK K
        refine norm_ (a' := ?_) ?_ ?_
        rotate_left
        · show Act.put _ (some 36) _ = _
          simp only [Act.put, List.setIfInBounds_toArray, List.set_cons_zero, List.set_cons_succ, i64_w, i32_w]
          rfl
        refine pure_ (i := 15) (N := some 4) (v := ?_) (a' := ?_) #[true, true, true, true, true, true, true, true, true, true, true, true, true, true, true, true] rfl rfl (by kernel_rfl) (fun _ _ _ h => h) (Or.inl ⟨by rfl, ?_⟩) ?_ ?_
        rotate_left
        · intro w'
          go_simp
          with_reducible rfl
        rotate_left
        · simp only [Act.put, List.setIfInBounds_toArray, List.set_cons_zero, List.set_cons_succ, i64_w, i32_w]
          rfl
        refine done_ (by kernel_rfl) ?_

        clear q1 q2 q3 q4 q6 q7 q8 q9 q10 q11
        go_wp2
        go_roundg (gk - 1)
        case measure => have := HK.out; omega
        case rel => exact ⟨i + 1, acc ++ [37, hexd (bt s i / 16), hexd (bt s i % 16)], by go_num, ⟨by have := HK.out; omega⟩, HE, ⟨Kd.R_mono HOf.out (fun _ _ => trivial)⟩, HB3⟩
    · have hi0 : decide ((i : Int) < (s.size : Int)) = false := decide_eq_false (by omega)
      have hi1 : decide (i < s.size) = false := decide_eq_false hi
      have HE := Aside0.mk (show acc = encL (bytesOf s) from by rw [HA.out, List.take_of_length_le (by rw [bytesOf_length]; omega)])
      have hcv := own_string (P := Try.prog) Try.underlying34 Try.underlying5 Try.underlying9 (Kd.own_of_R HO.out)
      rw [HE.out] at hcv
      go_wp2
      go_ret
      exact ⟨rfl, HB.out⟩
end Go.Proofs.Ytkaacdfikaggfaa.UriD
