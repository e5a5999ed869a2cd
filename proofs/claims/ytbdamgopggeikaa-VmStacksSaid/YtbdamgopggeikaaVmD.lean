/- May a code be, may a state be, a state's copy. -/
import Derived.Test.YtbdamgopggeikaaVmC
import Derived.Test.YtbdamgopggeikaaShelf
namespace Go.Proofs.Ytbdamgopggeikaa.VmW
open Go.RowKit Go.Proofs.YtbdamgopggeikaaW.PrintWords Go.Proofs.YtbdamgopggeikaaW.PrintMore Go.Proofs.YtbdamgopggeikaaW.PrintLast Go.Proofs.Ytbdamgopggeikaa.Pvm
set_option linter.unusedVariables false
set_option linter.unusedSimpArgs false
theorem wx_code {f : Int} {a : Int} {W : World} {n : Nat} {b : Bool} (hb : okI ⟨f, a⟩ n = b) : Calls Try.prog 33 #[.agg #[.int .i64 f, .int .i64 a], .int .i64 (n : Int)] W (BPost W b) :=
  (code_may.calls 1 f a (n : Int) b W (by rw [← hb]; exact code_f ⟨f, a⟩ n)).mono fun _ _ h => h
/-- The test of one instruction: a literal that holds the code's address. -/
theorem chk1_calls (W : World) (q : Nat) (A : Option Addr) (n c : Nat) (i : In) (hc : W.cell? ⟨q, 0, none⟩ = some (.slice A n c)) :
    Calls Try.prog 32 #[.agg #[.int .i64 i.f0, .int .i64 i.f1], .pointer (some ⟨q, 0, none⟩)] W (BPost W (!okI i n)) := by
  have hgl := World.block_lt_of_cell? W _ hc
  have hb := below_alloc (Below.refl W.heap.size W) (.cells #[.int .i64 i.f0, .int .i64 i.f1] 51)
  have hc1 : (W.alloc (.cells #[.int .i64 i.f0, .int .i64 i.f1] 51)).cell? ⟨q, 0, none⟩ = some (.slice A n c) := (hb.cell (p := ⟨q, 0, none⟩) hgl).trans hc
  have HB := Aside0.mk hb
  have HK := Aside0.mk (wx_code (f := i.f0) (a := i.f1) (n := n) (W := W.alloc (.cells #[.int .i64 i.f0, .int .i64 i.f1] 51)) rfl)
  have hu := Try.underlying51
  clear hgl hb hc
  generalize okI ⟨i.f0, i.f1⟩ n = b at *
  go_enter Try.func32, Try.ntmps32
  go_wp2_with (go_at_call 33; (with_reducible refine HK.out.mono ?_); rintro e w1 ⟨rfl, hb⟩; have HB1 := Aside0.mk (below_step HB.out hb); clear hb)
  go_ret
  exact ⟨rfl, HB1.out⟩
theorem code_at {W : World} {A : Option Addr} {code : List In} (hC : Kd.C kIn W A code.length code) (hp : 0 < code.length) :
    ∃ b o, A = some ⟨b, o, none⟩ ∧ b < W.heap.size ∧ ∀ j, j < code.length → W.cell? ⟨b, o + j * 2, none⟩ = some (.int .i64 (inAt code (j : Int)).f0) ∧ W.cell? ⟨b, o + j * 2 + 1, none⟩ = some (.int .i64 (inAt code (j : Int)).f1) := by
  obtain ⟨b, o, rfl, hb, hc⟩ := Hand.row_at hC hp (by decide)
  refine ⟨b, o, rfl, hb, fun j hj => ?_⟩
  obtain ⟨c, hl, hk, hcell⟩ := hc j code[j] (List.getElem?_eq_getElem hj)
  obtain rfl := k51_open hk
  have e : inAt code (j : Int) = code[j] := by unfold inAt rd_T51; rw [Int.toNat_natCast, List.getD_eq_getElem?_getD, List.getElem?_eq_getElem hj]; rfl
  rw [e]
  exact ⟨hcell 0 _ rfl, hcell 1 _ rfl⟩
theorem inAt_get {code : List In} {j : Nat} (hj : j < code.length) : inAt code (j : Int) = code[j] := by unfold inAt rd_T51; rw [Int.toNat_natCast, List.getD_eq_getElem?_getD, List.getElem?_eq_getElem hj]; rfl
def IdxPost (W : World) (code : List In) (e : Ending) (W' : World) : Prop := ∃ r : Int, e = .returned (.int .i64 r) ∧ Below W.heap.size W W' ∧ ((r = -1 ∧ chkL code code.length code 0 = (0, 0)) ∨ (0 ≤ r ∧ chkL code code.length code 0 = (130, r)))
set_option maxHeartbeats 4000000 in
set_option maxRecDepth 100000 in
theorem idx_calls (W : World) (q : Nat) (A : Option Addr) (c : Nat) (code : List In) (hc : W.cell? ⟨q, 0, none⟩ = some (.slice A code.length c)) (hC : Kd.C kIn W A code.length code) (h0 : 0 < code.length) (h1 : code.length ≤ 1024) :
    Calls Try.prog 31 #[.slice A code.length c, .func (.func 32) #[] #[.pointer (some ⟨q, 0, none⟩)]] W (IdxPost W code) := by
  obtain ⟨b, o, rfl, hb, hcell⟩ := code_at hC h0
  have hql := World.block_lt_of_cell? W _ hc
  have HC := Aside0.mk hcell
  have HQ := Aside0.mk hc
  have HL := Aside0.mk (And.intro hb hql)
  have hlen : (code.length : Int) ≤ 1024 := by omega
  have HBW := Aside0.mk (Below.refl W.heap.size W)
  clear hcell hc hb hql hC
  go_enter Try.func31, Try.ntmps31
  go_wp2
  go_loopw [8] (fun i wr => ∃ k : Nat, k ≤ code.length ∧ i = .int .i64 k ∧ Aside0 (Below W.heap.size W wr) ∧ Aside0 (chkL code code.length code 0 = chkL code code.length (code.drop k) k)) (fun i _ => code.length - (intOf i).toNat)
  case atStart => exact ⟨0, Nat.zero_le _, rfl, HBW, ⟨by simp⟩⟩
  case round =>
    obtain ⟨k, hk, rfl, HB, HR⟩ := hrel
    by_cases hlt : k < code.length
    · have hd := List.drop_eq_getElem_cons hlt
      have e0 := inAt_get hlt
      have hc2 := HC.out k hlt
      have x0 := (HB.out.cell (p := ⟨b, o + k * 2, none⟩) HL.out.1).trans hc2.1
      have x1 := (HB.out.cell (p := ⟨b, o + k * 2 + 1, none⟩) HL.out.1).trans hc2.2
      have hq2 := (HB.out.cell (p := ⟨q, 0, none⟩) HL.out.2).trans HQ.out
      have HK := Aside0.mk (chk1_calls wr q (some ⟨b, o, none⟩) code.length c (inAt code (k : Int)) hq2)
      have HD := Aside0.mk (show chkL code code.length (code.drop k) k = if okI (inAt code (k : Int)) code.length = true then chkL code code.length (code.drop (k + 1)) (k + 1) else (130, (k : Int)) from by rw [hd, e0]; rfl)
      clear hd e0 hc2 hq2
      cases hok : okI (inAt code (k : Int)) code.length with
      | true =>
        rw [hok] at HK
        have HD2 := Aside0.mk (HD.out.trans (if_pos hok))
        clear hok HD
        go_wp2_with (go_at_call 32; (with_reducible refine HK.out.mono ?_); rintro e w1 ⟨rfl, hb⟩; have HB1 := Aside0.mk (below_step HB.out hb); clear hb)
        go_roundw
        case rel => exact ⟨k + 1, by omega, by go_num, HB1, ⟨HR.out.trans HD2.out⟩⟩
        case measure => simp [intOf]; omega
      | false =>
        rw [hok] at HK
        have HD2 := Aside0.mk (HD.out.trans (if_neg (by rw [hok]; simp)))
        clear hok HD
        go_wp2_with (go_at_call 32; (with_reducible refine HK.out.mono ?_); rintro e w1 ⟨rfl, hb⟩; have HB1 := Aside0.mk (below_step HB.out hb); clear hb)
        go_ret
        exact ⟨_, rfl, HB1.out, .inr ⟨by omega, HR.out.trans HD2.out⟩⟩
    · obtain rfl : k = code.length := by omega
      have HD := Aside0.mk (show chkL code code.length (code.drop code.length) code.length = (0, 0) from by rw [List.drop_length]; rfl)
      go_wp2
      go_ret
      exact ⟨_, rfl, HB.out, .inl ⟨rfl, HR.out.trans HD.out⟩⟩
end Go.Proofs.Ytbdamgopggeikaa.VmW
