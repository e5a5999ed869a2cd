/- uri.parts with Form's literal, and uri.Form, by hand. -/
import Derived.Test.YtkaacdfikaggfaaUriForm1
import Derived.Test.YtkaacdfikaggfaaPcs
namespace Go.Proofs.Ytkaacdfikaggfaa.UriD
open Go.RowKit Go.Proofs.YtkaacdfikaggfaaW.PrintWords Go.Proofs.YtkaacdfikaggfaaW.PrintLast Go.Proofs.YtkaacdfikaggfaaW.PrintMore Go.Proofs.Ytkaacdfikaggfaa.Bs Go.Proofs.Ytkaacdfikaggfaa.UriF Go.Proofs.Ytkaacdfikaggfaa.Vars
set_option linter.unusedVariables false
set_option linter.unusedSimpArgs false

theorem form1_calls (w0 : World) (st : FSt) (p : ByteArray) (at_ : Int) (hp : p.size ≤ 140737488351232) (h0 : 0 ≤ at_) (h1 : at_ ≤ 140737488351232) (hl : (st.1.length + 1) * 32 ≤ 140737488355328) (W : World) (HE : FEnv w0 W.heap.size st W) :
    Calls Try.prog 27 #[.string p, .int .i64 at_, .pointer (some ⟨w0.heap.size + 1, 0, none⟩), .pointer (some ⟨w0.heap.size + 1 + 1, 0, none⟩), .pointer (some ⟨w0.heap.size, 0, none⟩)] W fun e W' =>
      e = .returned (.bool (formStep st p at_).2) ∧ FEnv w0 W'.heap.size (formStep st p at_).1 W' := by
  unfold formStep
  by_cases hp0 : p.size = 0
  · rw [if_pos hp0]
    obtain rfl : p = ⟨#[]⟩ := bytesOf_inj (List.eq_nil_of_length_eq_zero (by rw [bytesOf_length]; exact hp0))
    exact form1_empty w0 st at_ W HE
  · rw [if_neg hp0]
    obtain ⟨n, x, y, hd⟩ : ∃ n x y, decodeR (cutR 61 p).1 true = (n, x, y) := ⟨_, _, _, rfl⟩
    rw [hd]
    by_cases hx : x = 0
    · subst hx
      rw [if_neg (by simp)]
      obtain ⟨n2, x2, y2, hd2⟩ : ∃ n x y, decodeR (cutR 61 p).2.1 true = (n, x, y) := ⟨_, _, _, rfl⟩
      rw [hd2]
      by_cases hx2 : x2 = 0
      · subst hx2
        rw [if_neg (by simp)]
        exact form1_ok w0 st p at_ hp hp0 h0 h1 W HE n y hd n2 y2 hd2 hl
      · rw [if_pos hx2]
        exact form1_value w0 st p at_ hp hp0 h0 h1 W HE n y hd n2 x2 y2 hd2 hx2
    · rw [if_pos hx]
      exact form1_name w0 st p at_ hp hp0 h0 h1 W HE n x y hd hx
theorem formStep_len (st : FSt) (p : ByteArray) (at_ : Int) : (formStep st p at_).1.1.length ≤ st.1.length + 1 := by
  unfold formStep
  split
  · simp
  · split
    · simp
    · split <;> simp
theorem ib_calls (s : ByteArray) (u : UInt8) (c : Int) (hc : c = (u.toNat : Int)) (w : World) : Calls Try.prog 33 #[.string s, .int .u8 c] w fun e w' => e = .returned (.int .i64 (idxL c (bytesOf s))) ∧ w' = w := by
  subst hc
  have := Try.strings_IndexByte s (u.toNat : Int) w
  rw [Int.toNat_natCast, show u.toNat.toUInt8 = u from UInt8.ofNat_toNat, indexByte_idxL] at this
  exact this

set_option maxHeartbeats 8000000 in
set_option maxRecDepth 100000 in
theorem formparts_calls (w0 : World) (s : ByteArray) (hs : s.size ≤ 1099511627776) (W : World) (HE : FEnv w0 W.heap.size ([], 0, 0) W) :
    Calls Try.prog 26 #[.string s, .int .u8 38, .func (.func 27) #[] #[.pointer (some ⟨w0.heap.size + 1, 0, none⟩), .pointer (some ⟨w0.heap.size + 1 + 1, 0, none⟩), .pointer (some ⟨w0.heap.size, 0, none⟩)]] W fun e W' =>
      e = .returned (.tuple #[]) ∧ FEnv w0 W'.heap.size (foldP formStep ([], 0, 0) (pcs 38 (bytesOf s) [] 0 0)) W' := by
  obtain ⟨R, hR⟩ : ∃ R, R = foldP formStep ([], 0, 0) (pcs 38 (bytesOf s) [] 0 0) := ⟨_, rfl⟩
  have HR := Aside0.mk hR
  have HS0 := Aside0.mk hs
  have HE0 := Aside0.mk HE
  rw [← hR]
  clear hR hs HE
  go_enter Try.func26, Try.ntmps26
  go_wp2
  go_loopg [6, 7] (s.size + 2) (fun kq v6 v7 w' => ∃ (st : FSt) (i : Nat), v6 = .int .i64 (i : Int) ∧ Aside0 (s.size + 1 ≤ kq + i ∧ i ≤ s.size) ∧ Aside0 (foldP formStep st (pcs 38 ((bytesOf s).drop i) [] i i) = R) ∧ Aside0 (st.1.length ≤ i) ∧ Aside0 (FEnv w0 w'.heap.size st w'))
  case atStart => exact ⟨([], 0, 0), 0, rfl, ⟨by omega⟩, ⟨by rw [HR.out]; rfl⟩, ⟨by simp⟩, HE0⟩
  case round =>
    obtain ⟨st, i, rfl, HK, HF, HL, HE⟩ := hrel
    clear HE0 HR
    have hi0 : 0 ≤ (i : Int) := by omega
    have hi1 : (i : Int) ≤ (s.size : Int) := by have := HK.out; omega
    have hi2 : i ≤ s.size := HK.out.2
    have hsz : (s.size : Int) ≤ 1099511627776 := by have := HS0.out; omega
    have HIB := Aside0.mk (fun W => ib_calls (s.extract i s.size) 38 38 rfl W)
    rcases idxL_cases 38 (bytesOf (s.extract i s.size)) with ⟨h1, h2⟩ | ⟨k, h1, h2, h3, h4⟩
    · have HP := Aside0.mk (pcs_last h1)
      have HF2 := HF.out
      rw [HP.out, foldP_one, strOfNums_bytesOf] at HF2
      have HF3 := Aside0.mk HF2
      have hib := HIB.out
      rw [h1] at hib
      have HIB2 := Aside0.mk hib
      have HC := Aside0.mk (fun (W : World) (h : FEnv w0 W.heap.size st W) => form1_calls w0 st (s.extract i s.size) (i : Int) (by have := HS0.out; rw [tail_size]; omega) (by omega) (by omega) (by have := HL.out; omega) W h)
      clear h1 h2 hib HF2 HIB HP
      go_wp2_with (first | (go_at_call 33; refine (HIB2.out _).mono ?_; rintro e w1 ⟨rfl, rfl⟩) | (go_at_call 27; refine (HC.out _ HE.out).mono ?_; rintro e w2 ⟨rfl, hE⟩; have HE2 := Aside0.mk hE; clear hE))
      refine bodyPost_ret (results_none rfl _ _ _) rfl ?_
      exact ⟨rfl, by rw [← HF3.out]; exact HE2.out⟩
    · obtain ⟨hpn, hk⟩ := pcs_next h1
      have HP := Aside0.mk hpn
      have HF2 := HF.out
      rw [HP.out, foldP, strOfNums_bytesOf] at HF2
      have hib := HIB.out
      rw [h1] at hib
      have HIB2 := Aside0.mk hib
      have hes : (s.extract i (i + k)).size = k := by rw [ByteArray.size_extract]; omega
      have hln := formStep_len st (s.extract i (i + k)) (i : Int)
      have HC := Aside0.mk (fun (W : World) (h : FEnv w0 W.heap.size st W) => form1_calls w0 st (s.extract i (i + k)) (i : Int) (by have := HS0.out; omega) (by omega) (by omega) (by have := HL.out; omega) W h)
      have hk0 : 0 ≤ (k : Int) := by omega
      have hk1 : (i : Int) + (k : Int) ≤ (s.size : Int) := by omega
      have hk2 : i + k ≤ s.size := by omega
      have hk3 : (i : Int) ≤ (i : Int) + (k : Int) := by omega
      have hk4 : ((k : Int) < 0) = False := eq_false (by omega)
      have hk5 : decide ((k : Int) < 0) = false := decide_eq_false (by omega)
      have HLn := Aside0.mk hln
      clear h1 h2 h3 h4 hib HIB HP hpn hes hln
      generalize hr : formStep st (s.extract i (i + k)) (i : Int) = r at HF2 HC HLn
      clear hr
      obtain ⟨st2, b⟩ := r
      cases b with
      | false =>
        rw [if_neg (show ¬ ((st2, false).2 = true) from by simp)] at HF2
        have HF3 := Aside0.mk HF2
        clear HF2
        go_wp2_with (first | (go_at_call 33; refine (HIB2.out _).mono ?_; rintro e w1 ⟨rfl, rfl⟩) | (go_at_call 27; refine (HC.out _ HE.out).mono ?_; rintro e w2 ⟨rfl, hE⟩; have HE2 := Aside0.mk hE; clear hE))
        refine bodyPost_ret (results_none rfl _ _ _) rfl ?_
        exact ⟨rfl, by rw [← HF3.out]; exact HE2.out⟩
      | true =>
        rw [if_pos rfl] at HF2
        have HF3 := Aside0.mk HF2
        clear HF2
        go_wp2_with (first | (go_at_call 33; refine (HIB2.out _).mono ?_; rintro e w1 ⟨rfl, rfl⟩) | (go_at_call 27; refine (HC.out _ HE.out).mono ?_; rintro e w2 ⟨rfl, hE⟩; have HE2 := Aside0.mk hE; clear hE))
        go_roundg (gk - 1)
        case measure => have := HK.out; omega
        case rel => exact ⟨st2, i + k + 1, by go_num, ⟨by have := HK.out; omega⟩, ⟨HF3.out⟩, ⟨by have := HLn.out; have := HL.out; omega⟩, HE2⟩
end Go.Proofs.Ytkaacdfikaggfaa.UriD
