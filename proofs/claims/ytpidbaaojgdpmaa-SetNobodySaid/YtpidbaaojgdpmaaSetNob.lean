/- A set that nobody made: its methods; the law SetNobody. -/
import Derived.Test.YtpidbaaojgdpmaaSetC
namespace Go.Proofs.Ytpidbaaojgdpmaa.SetW
open Go.RowKit Go.Sort Go.Proofs.YtpidbaaojgdpmaaW.PrintWords Go.Proofs.YtpidbaaojgdpmaaW.PrintMore Go.Proofs.Ytpidbaaojgdpmaa.SetF Go.Proofs.Ytpidbaaojgdpmaa.OwnPut
set_option linter.unusedVariables false
set_option linter.unusedSimpArgs false
def Nob (w : World) (p : Option Addr) : Prop := p = none ∨ ∃ g, p = some ⟨g, 0, none⟩ ∧ w.heap[g]? = some (boxOf 0 (.slice none 0 0))
set_option maxHeartbeats 4000000 in
set_option maxRecDepth 100000 in
theorem given_nob (p : Option Addr) (W : World) (h : Nob W p) :
    Calls Try.prog 47 #[.pointer p] W fun e w' => e = .returned (.bool false) ∧ W = w' := by
  rcases h with rfl | ⟨g, rfl, hb⟩
  · go_enter Try.func47, Try.ntmps47
    go_wp2
    go_ret
    exact ⟨rfl, rfl⟩
  · exact (given_calls g 0 _ W hb).mono fun e w' ⟨he, hw⟩ => ⟨he, hw⟩
set_option maxHeartbeats 4000000 in
set_option maxRecDepth 100000 in
theorem add_nob (p : Option Addr) (x : Int) (W : World) (h : Nob W p) :
    Calls Try.prog 31 #[.pointer p, .int .i64 x] W fun e w' => e = .returned (.int .i64 1) ∧ W = w' := by
  have HG := Aside0.mk (given_nob p W h)
  clear h
  go_enter Try.func31, Try.ntmps31
  go_wp2_with (go_at_call 47; refine HG.out.mono ?_; rintro e w1 ⟨rfl, rfl⟩)
  go_ret
  exact ⟨rfl, rfl⟩
set_option maxHeartbeats 4000000 in
set_option maxRecDepth 100000 in
theorem del_nob (p : Option Addr) (x : Int) (W : World) (h : Nob W p) :
    Calls Try.prog 32 #[.pointer p, .int .i64 x] W fun e w' => e = .returned (.int .i64 1) ∧ W = w' := by
  have HG := Aside0.mk (given_nob p W h)
  clear h
  go_enter Try.func32, Try.ntmps32
  go_wp2_with (go_at_call 47; refine HG.out.mono ?_; rintro e w1 ⟨rfl, rfl⟩)
  go_ret
  exact ⟨rfl, rfl⟩
set_option maxHeartbeats 4000000 in
set_option maxRecDepth 100000 in
theorem has_nob (p : Option Addr) (x : Int) (W : World) (h : Nob W p) :
    Calls Try.prog 36 #[.pointer p, .int .i64 x] W fun e w' => e = .returned (.bool false) ∧ W = w' := by
  have HG := Aside0.mk (given_nob p W h)
  clear h
  go_enter Try.func36, Try.ntmps36
  go_wp2_with (go_at_call 47; refine HG.out.mono ?_; rintro e w1 ⟨rfl, rfl⟩)
  go_ret
  exact ⟨rfl, rfl⟩
set_option maxHeartbeats 4000000 in
set_option maxRecDepth 100000 in
theorem list_nob (p : Option Addr) (W : World) (h : Nob W p) :
    Calls Try.prog 34 #[.pointer p] W fun e w' => e = .returned (.slice none 0 0) ∧ W = w' := by
  have HG := Aside0.mk (given_nob p W h)
  clear h
  go_enter Try.func34, Try.ntmps34
  go_wp2_with (go_at_call 47; refine HG.out.mono ?_; rintro e w1 ⟨rfl, rfl⟩)
  go_ret
  exact ⟨rfl, rfl⟩
set_option maxHeartbeats 4000000 in
set_option maxRecDepth 100000 in
theorem len_nob (p : Option Addr) (W : World) (h : Nob W p) :
    Calls Try.prog 35 #[.pointer p] W fun e w' => e = .returned (.int .i64 0) ∧ W = w' := by
  have HG := Aside0.mk (given_nob p W h)
  clear h
  go_enter Try.func35, Try.ntmps35
  go_wp2_with (go_at_call 47; refine HG.out.mono ?_; rintro e w1 ⟨rfl, rfl⟩)
  go_ret
  exact ⟨rfl, rfl⟩
set_option maxHeartbeats 4000000 in
set_option maxRecDepth 100000 in
theorem copy_nob (p : Option Addr) (W : World) (h : Nob W p) :
    Calls Try.prog 33 #[.pointer p] W fun e w' => e = .returned (.pointer none) ∧ W = w' := by
  have HG := Aside0.mk (given_nob p W h)
  clear h
  go_enter Try.func33, Try.ntmps33
  go_wp2_with (go_at_call 47; refine HG.out.mono ?_; rintro e w1 ⟨rfl, rfl⟩)
  go_ret
  exact ⟨rfl, rfl⟩
def nobPtr (w : World) (k : Nat) : Option Addr := if k = 0 then none else some ⟨w.heap.size, 0, none⟩
def nobW (w : World) : World := (w.alloc (boxOf 0 (.slice none 0 0))).alloc (.cells #[.pointer none, .pointer (some ⟨w.heap.size, 0, none⟩)] 36)
theorem nob_at (w : World) (k : Nat) : Nob (nobW w) (nobPtr w k) := by
  unfold nobPtr
  split
  · exact .inl rfl
  · exact .inr ⟨_, rfl, (two_heap w _ _).1⟩
theorem nob_cell (w : World) (k : Nat) (h : k < 2) : (nobW w).cell? ⟨w.heap.size + 1, k, none⟩ = some (.pointer (nobPtr w k)) := by
  have := blk_cell (two_heap w (boxOf 0 (.slice none 0 0)) (.cells #[.pointer none, .pointer (some ⟨w.heap.size, 0, none⟩)] 36)).2 k
  refine Eq.trans this ?_
  rcases k with _ | _ | k
  · rfl
  · rfl
  · omega
set_option maxHeartbeats 4000000 in
set_option maxRecDepth 100000 in
theorem setNobody_calls (x : Int) (w : World) :
    Calls Try.prog 8 #[.int .i64 x] w fun e w' => e = .returned (.bool true) ∧ Below w.heap.size w w' := by
  have HX := Aside0.mk (show ∀ W2, nobW w = W2 → Below w.heap.size w W2 ∧ (∀ k, Nob W2 (nobPtr w k)) ∧ (∀ k, k < 2 → W2.cell? ⟨w.heap.size + 1, k, none⟩ = some (.pointer (nobPtr w k))) from fun W2 h => h ▸ ⟨below_two w _ _, nob_at w, nob_cell w⟩)
  have P0 : decide (nobPtr w 0 = none) = decide (nobPtr w 0 = none) := rfl
  clear P0
  go_enter Try.func8, Try.ntmps8
  go_wp2
  generalize hW : World.alloc (World.alloc w _) _ = W2
  obtain ⟨hb, hn, hc⟩ := HX.out W2 hW
  have HB := Aside0.mk hb
  have HN := Aside0.mk hn
  have HC := Aside0.mk hc
  clear HX hW hb hn hc
  go_loop [4] (fun i => ∃ k : Nat, k ≤ 2 ∧ i = .int .i64 (k : Int)) (fun i => 2 - (intOf i).toNat)
  case atStart => exact ⟨0, by omega, rfl⟩
  case round =>
    obtain ⟨k, hk, rfl⟩ := hrel
    by_cases hlt : k < 2
    · have c := HC.out k hlt
      have hn := Aside0.mk (HN.out k)
      clear HN HC
      generalize nobPtr w k = p at c hn
      have i1 : (k : Int) < 2 := by omega
      go_wp2_with (first
        | (go_at_call 31; refine (add_nob p x W2 hn.out).mono ?_; rintro e w1 ⟨rfl, rfl⟩)
        | (go_at_call 32; refine (del_nob p x W2 hn.out).mono ?_; rintro e w1 ⟨rfl, rfl⟩)
        | (go_at_call 36; refine (has_nob p x W2 hn.out).mono ?_; rintro e w1 ⟨rfl, rfl⟩)
        | (go_at_call 35; refine (len_nob p W2 hn.out).mono ?_; rintro e w1 ⟨rfl, rfl⟩)
        | (go_at_call 34; refine (list_nob p W2 hn.out).mono ?_; rintro e w1 ⟨rfl, rfl⟩)
        | (go_at_call 33; refine (copy_nob p W2 hn.out).mono ?_; rintro e w1 ⟨rfl, rfl⟩))
      go_round
      case rel => exact ⟨k + 1, by omega, by go_num⟩
      case measure => simp [intOf]; omega
    · have i1 : ¬ (k : Int) < 2 := by omega
      clear HN HC
      go_wp2_with (go_at_call 13; refine (awake_calls W2).mono ?_; rintro e w3 ⟨rfl, hb⟩; have HB3 := Aside0.mk (below_step HB.out hb); clear hb)
      go_ret
      exact ⟨rfl, HB3.out⟩
end Go.Proofs.Ytpidbaaojgdpmaa.SetW
