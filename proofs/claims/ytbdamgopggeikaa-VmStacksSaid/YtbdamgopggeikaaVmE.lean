/- code.Check, vm.may, vm.copied. -/
import Derived.Test.YtbdamgopggeikaaVmD
namespace Go.Proofs.Ytbdamgopggeikaa.VmW
open Go.RowKit Go.Proofs.YtbdamgopggeikaaW.PrintWords Go.Proofs.YtbdamgopggeikaaW.PrintMore Go.Proofs.YtbdamgopggeikaaW.PrintLast Go.Proofs.Ytbdamgopggeikaa.Pvm
set_option linter.unusedVariables false
set_option linter.unusedSimpArgs false
def TwoPost (W : World) (x y : Int) (e : Ending) (W' : World) : Prop := e = .returned (.tuple #[.int .i64 x, .int .i64 y]) ∧ Below W.heap.size W W'
theorem tpost {W W' : World} {x y x' y' : Int} {e : Ending} (he : e = .returned (.tuple #[.int .i64 x', .int .i64 y'])) (hb : Below W.heap.size W W') (hx : x' = x) (hy : y' = y) : TwoPost W x y e W' := ⟨hx ▸ hy ▸ he, hb⟩
set_option maxHeartbeats 4000000 in
set_option maxRecDepth 100000 in
theorem check_calls (W : World) (A : Option Addr) (c : Nat) (code : List In) (hC : Kd.C kIn W A code.length code) (hcap : code.length ≤ c) :
    Calls Try.prog 24 #[.slice A code.length c] W (TwoPost W (chkP code).1 (chkP code).2) := by
  have hmax := Kd.C_max hC
  have HB := Aside0.mk (below_alloc (Below.refl W.heap.size W) (.cells #[.slice A code.length c] 22))
  have HN := heap_alloc_new W (.cells #[.slice A code.length c] 22)
  have HC := Aside0.mk (Kd.C_alloc hC (.cells #[.slice A code.length c] 22))
  have hq : (W.alloc (.cells #[.slice A code.length c] 22)).cell? ⟨W.heap.size, 0, none⟩ = some (.slice A code.length c) := blk_cell HN 0
  clear hC HN hcap
  by_cases h0 : code.length < 1
  · have t0 : decide ((code.length : Int) < 1) = true := decide_eq_true (by omega)
    have HP := Aside0.mk (show chkP code = (2, 0) from by unfold chkP; rw [if_pos (.inl h0)])
    clear h0 hmax
    go_enter Try.func24, Try.ntmps24
    go_wp2
    go_ret2
    exact tpost rfl HB.out (by rw [HP.out]) (by rw [HP.out])
  · have t0 : decide ((code.length : Int) < 1) = false := decide_eq_false (by omega)
    by_cases h1 : 1024 < code.length
    · have t1 : decide ((code.length : Int) > 1024) = true := decide_eq_true (by omega)
      have t2 : decide (1024 < (code.length : Int)) = true := decide_eq_true (by omega)
      have HP := Aside0.mk (show chkP code = (2, 0) from by unfold chkP; rw [if_pos (.inr h1)])
      clear h0 hmax h1
      go_enter Try.func24, Try.ntmps24
      go_wp2
      go_ret2
      exact tpost rfl HB.out (by rw [HP.out]) (by rw [HP.out])
    · have t1 : decide ((code.length : Int) > 1024) = false := decide_eq_false (by omega)
      have t2 : decide (1024 < (code.length : Int)) = false := decide_eq_false (by omega)
      have HK := Aside0.mk (idx_calls _ W.heap.size A c code hq HC.out (by omega) (by omega))
      have HP := Aside0.mk (show chkP code = chkL code code.length code 0 from by unfold chkP; rw [if_neg (by omega)])
      clear h0 h1 hmax
      go_enter Try.func24, Try.ntmps24
      go_wp2_with (go_at_call 31; (with_reducible refine HK.out.mono ?_); rintro e w1 ⟨r, rfl, hb, hr⟩; have HB1 := Aside0.mk (below_step HB.out hb); have HR := Aside0.mk hr; clear hb hr)
      · go_ret2
        have h3 : r ≥ 0 := by assumption
        have h5 : chkP code = (130, r) := by
          rw [HP.out]
          rcases HR.out with ⟨h, _⟩ | ⟨_, h⟩
          · omega
          · exact h
        exact tpost rfl HB1.out (by rw [h5]) (by rw [h5])
      · go_ret2
        have h3 : ¬ r ≥ 0 := by first | assumption | (have h4 : r < 0 := by assumption); omega
        have h5 : chkP code = (0, 0) := by
          rw [HP.out]
          rcases HR.out with ⟨_, h⟩ | ⟨h, _⟩
          · exact h
          · omega
        exact tpost rfl HB1.out (by rw [h5]) (by rw [h5])
theorem ret_bool {a b : Bool} (h : a = b) : Ending.returned (.bool a) = .returned (.bool b) := by rw [h]
/-- odd. -/
theorem odd_calls (W : World) (q : Nat) (n : Int) (x : Int) (hc : W.cell? ⟨q, 0, none⟩ = some (.int .i64 n)) :
    Calls Try.prog 34 #[.int .i64 x, .pointer (some ⟨q, 0, none⟩)] W fun e W' => e = .returned (.bool (decide (x < 0 ∨ n < x))) ∧ W = W' := by
  by_cases h0 : x < 0
  · have t0 : decide (x < 0) = true := decide_eq_true h0
    have hd : decide (x < 0 ∨ n < x) = true := decide_eq_true (.inl h0)
    rw [hd]
    clear h0 hd
    go_enter Try.func34, Try.ntmps34
    go_wp2
    go_ret
    exact ⟨rfl, rfl⟩
  · have t0 : decide (x < 0) = false := decide_eq_false h0
    have hd : decide (x < 0 ∨ n < x) = decide (x > n) := by rw [Bool.eq_iff_iff]; simp; omega
    rw [hd]
    clear h0 hd
    generalize hb : decide (x > n) = b
    have hb' : decide (n < x) = b := hb
    go_enter Try.func34, Try.ntmps34
    go_wp2
    go_ret
    exact ⟨rfl, rfl⟩
theorem ints_at {w : World} {A : Option Addr} {xs : List Int} (h : Kd.C (Kd.int .i64) w A xs.length xs) (hp : 0 < xs.length) :
    ∃ b o, A = some ⟨b, o, none⟩ ∧ b < w.heap.size ∧ ∀ j, j < xs.length → w.cell? ⟨b, o + j, none⟩ = some (.int .i64 (xs.getD j 0)) := by
  obtain ⟨b, o, rfl, hb, hc⟩ := Hand.row_at h hp (by decide)
  refine ⟨b, o, rfl, hb, fun j hj => ?_⟩
  obtain ⟨c, hl, hk, hcell⟩ := hc j xs[j] (List.getElem?_eq_getElem hj)
  obtain rfl : c = [.int .i64 xs[j]] := hk
  have := hcell 0 _ rfl
  rw [show j * (Kd.int .i64).sz + 0 = j from Nat.mul_one j] at this
  rw [this, List.getD_eq_getElem?_getD, List.getElem?_eq_getElem hj]; rfl
def okB (n : Int) (l : List Int) : Prop := ∀ x ∈ l, 0 ≤ x ∧ x ≤ n
def IdxI (W : World) (n : Int) (l : List Int) (e : Ending) (W' : World) : Prop := ∃ r : Int, e = .returned (.int .i64 r) ∧ W = W' ∧ ((r = -1 ∧ okB n l) ∨ (0 ≤ r ∧ ¬ okB n l))
set_option maxHeartbeats 4000000 in
set_option maxRecDepth 100000 in
theorem idxi_calls (W : World) (q : Nat) (n : Int) (A : Option Addr) (c : Nat) (l : List Int) (hc : W.cell? ⟨q, 0, none⟩ = some (.int .i64 n)) (hC : Kd.C (Kd.int .i64) W A l.length l) (h1 : l.length ≤ 32) :
    Calls Try.prog 44 #[.slice A l.length c, .func (.func 34) #[] #[.pointer (some ⟨q, 0, none⟩)]] W (IdxI W n l) := by
  by_cases h0 : 0 < l.length
  · obtain ⟨b, o, rfl, hb, hcell⟩ := ints_at hC h0
    have HC := Aside0.mk hcell
    have HQ := Aside0.mk (fun x : Int => odd_calls W q n x hc)
    have hlen : (l.length : Int) ≤ 32 := by omega
    clear hcell hc hb hC
    go_enter Try.func44, Try.ntmps44
    go_wp2
    go_loop [8] (fun i => ∃ k : Nat, k ≤ l.length ∧ i = .int .i64 k ∧ Aside0 (okB n (l.take k))) (fun i => l.length - (intOf i).toNat)
    case atStart => exact ⟨0, Nat.zero_le _, rfl, ⟨by intro x hx; simp at hx⟩⟩
    case round =>
      obtain ⟨k, hk, rfl, HR⟩ := hrel
      by_cases hlt : k < l.length
      · have x0 := HC.out k hlt
        have HS := Aside0.mk (show l.take (k + 1) = l.take k ++ [l.getD k 0] from by rw [List.take_succ_eq_append_getElem hlt, List.getD_eq_getElem?_getD, List.getElem?_eq_getElem hlt]; rfl)
        have HM := Aside0.mk (show l.getD k 0 ∈ l from by rw [List.getD_eq_getElem?_getD, List.getElem?_eq_getElem hlt]; exact List.getElem_mem hlt)
        generalize l.getD k 0 = x at *
        by_cases hx : x < 0 ∨ n < x
        · have HK := Aside0.mk ((HQ.out x).mono fun (e : Ending) (w' : World) ⟨he, hw⟩ => (⟨by rw [he, decide_eq_true hx], hw⟩ : e = Ending.returned (.bool true) ∧ W = w'))
          have HX := Aside0.mk hx
          clear hx
          go_wp2_with (go_at_call 34; (with_reducible refine HK.out.mono ?_); rintro e w1 ⟨rfl, rfl⟩)
          go_ret
          exact ⟨_, rfl, rfl, .inr ⟨by omega, fun h => by have := h x HM.out; have := HX.out; omega⟩⟩
        · have HK := Aside0.mk ((HQ.out x).mono fun (e : Ending) (w' : World) ⟨he, hw⟩ => (⟨by rw [he, decide_eq_false hx], hw⟩ : e = Ending.returned (.bool false) ∧ W = w'))
          have HX := Aside0.mk hx
          clear hx
          go_wp2_with (go_at_call 34; (with_reducible refine HK.out.mono ?_); rintro e w1 ⟨rfl, rfl⟩)
          go_round
          case rel => exact ⟨k + 1, by omega, by go_num, ⟨by
            rw [HS.out]
            intro y hy
            rcases List.mem_append.1 hy with hy | hy
            · exact HR.out y hy
            · rw [List.mem_singleton.1 hy]; have := HX.out; omega⟩⟩
          case measure => simp [intOf]; omega
      · obtain rfl : k = l.length := by omega
        have HE := Aside0.mk (show okB n l from by have := HR.out; rwa [List.take_length] at this)
        go_wp2
        go_ret
        exact ⟨_, rfl, rfl, .inl ⟨rfl, HE.out⟩⟩
  · obtain rfl : l = [] := List.eq_nil_of_length_eq_zero (by omega)
    clear hC hc h0 h1
    simp only [List.length_nil]
    go_enter Try.func44, Try.ntmps44
    go_wp2
    go_loop [8] (fun i => i = .int .i64 0) (fun i => 0)
    case atStart => rfl
    case round =>
      obtain rfl := hrel
      go_wp2
      go_ret
      exact ⟨_, rfl, rfl, .inl ⟨rfl, by intro x hx; simp at hx⟩⟩
set_option maxHeartbeats 4000000 in
theorem cont_calls (W : World) (q : Nat) (n : Int) (A : Option Addr) (c : Nat) (l : List Int) (hc : W.cell? ⟨q, 0, none⟩ = some (.int .i64 n)) (hC : Kd.C (Kd.int .i64) W A l.length l) (h1 : l.length ≤ 32) (b : Bool) (hb : b = true ↔ ¬ okB n l) :
    Calls Try.prog 35 #[.slice A l.length c, .func (.func 34) #[] #[.pointer (some ⟨q, 0, none⟩)]] W fun e W' => e = .returned (.bool b) ∧ W = W' := by
  have HK := Aside0.mk (idxi_calls W q n A c l hc hC h1)
  have HH := Aside0.mk hb
  clear hC hc h1 hb
  go_enter Try.func35, Try.ntmps35
  go_wp2_with (go_at_call 44; (with_reducible refine HK.out.mono ?_); rintro e w1 ⟨r, rfl, rfl, hr⟩; have HR := Aside0.mk hr; clear hr)
  go_ret
  refine ⟨?_, rfl⟩
  have e : decide (r ≥ 0) = b := by
    have h := HH.out
    rcases HR.out with ⟨h2, h3⟩ | ⟨h2, h3⟩
    · cases hb : b with
      | true => exact absurd h3 (h.1 hb)
      | false => simp; omega
    · rw [h.2 h3]; simpa using h2
  exact ret_bool e
end Go.Proofs.Ytbdamgopggeikaa.VmW
