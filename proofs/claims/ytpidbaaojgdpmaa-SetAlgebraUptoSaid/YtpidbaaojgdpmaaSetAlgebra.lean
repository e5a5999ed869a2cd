/- The law SetAlgebra, walked by hand. -/
import Derived.Test.YtpidbaaojgdpmaaSetE
namespace Go.Proofs.Ytpidbaaojgdpmaa.SetW
open Go.RowKit Go.Proofs.YtpidbaaojgdpmaaW.PrintWords Go.Proofs.YtpidbaaojgdpmaaW.PrintMore Go.Proofs.Ytpidbaaojgdpmaa.SetF Go.Proofs.Ytpidbaaojgdpmaa.OwnPut
set_option linter.unusedVariables false
set_option linter.unusedSimpArgs false
theorem alg_len (a b c : List Int) (ha : a.length ≤ 1048576) (hb : b.length ≤ 1048576) (hc : c.length ≤ 1048576) :
    (joinL a b).length ≤ 2097152 ∧ (joinL b a).length ≤ 2097152 ∧ (joinL b c).length ≤ 2097152 ∧ (joinL (joinL a b) c).length ≤ 3145728 ∧ (joinL a (joinL b c)).length ≤ 3145728 ∧
    (keptL a b true).length ≤ 1048576 ∧ (keptL b a true).length ≤ 1048576 ∧ (keptL b c true).length ≤ 1048576 ∧ (keptL a c true).length ≤ 1048576 ∧ (keptL (keptL a b true) c true).length ≤ 1048576 ∧ (keptL a (keptL b c true) true).length ≤ 1048576 ∧
    (keptL a (joinL b c) true).length ≤ 1048576 ∧ (joinL (keptL a b true) (keptL a c true)).length ≤ 2097152 ∧ (ofL a).length ≤ 1048576 ∧ (ofL (ofL a)).length ≤ 1048576 := by
  have := join_len a b; have := join_len b a; have := join_len b c; have := join_len (joinL a b) c; have := join_len a (joinL b c)
  have := kept_len a b true; have := kept_len b a true; have := kept_len b c true; have := kept_len a c true; have := kept_len (keptL a b true) c true; have := kept_len a (keptL b c true) true
  have := kept_len a (joinL b c) true; have := join_len (keptL a b true) (keptL a c true); have := ofL_len a; have := ofL_len (ofL a)
  refine ⟨?_, ?_, ?_, ?_, ?_, ?_, ?_, ?_, ?_, ?_, ?_, ?_, ?_, ?_, ?_⟩ <;> omega
set_option maxHeartbeats 4000000 in
set_option maxRecDepth 100000 in
theorem setAlgebra_calls (A0 : Option Addr) (c0 : Nat) (a : List Int) (A1 : Option Addr) (c1 : Nat) (b : List Int) (A2 : Option Addr) (c2 : Nat) (c : List Int) (w : World) (hr0 : Kd.C (Kd.int .i64) w A0 a.length a) (hc0 : a.length ≤ c0) (hr1 : Kd.C (Kd.int .i64) w A1 b.length b) (hc1 : b.length ≤ c1) (hr2 : Kd.C (Kd.int .i64) w A2 c.length c) (hc2 : c.length ≤ c2) (hb0 : a.length ≤ 1048576) (hb1 : b.length ≤ 1048576) (hb2 : c.length ≤ 1048576) :
    Calls Try.prog 3 #[.slice A0 a.length c0, .slice A1 b.length c1, .slice A2 c.length c2] w fun e w' => e = .returned (.bool true) ∧ Below w.heap.size w w' := by
  have HL := Aside0.mk (And.intro hb0 (And.intro hb1 (And.intro hb2 (alg_len a b c hb0 hb1 hb2))))
  have HE := Aside0.mk ((((RowsE.mk (Below.refl w.heap.size w) (by simp) : RowsE w w []).add hc2 hr2).add hc1 hr1).add hc0 hr0)
  clear hr0 hc0 hr1 hc1 hr2 hc2 hb0 hb1 hb2
  go_enter Try.func3, Try.ntmps3
  go_wp2_with (first
    | (go_at_call 10; (with_reducible refine (joinE HE.out (by repeat (first | exact List.mem_cons_self | apply List.mem_cons_of_mem)) (by repeat (first | exact List.mem_cons_self | apply List.mem_cons_of_mem)) (by have := HL.out; omega)).mono ?_); rintro e w' ⟨A, cp, rfl, hE⟩; clear HE; have HE := Aside0.mk hE; clear hE)
    | (go_at_call 11; (with_reducible refine (meetE HE.out (by repeat (first | exact List.mem_cons_self | apply List.mem_cons_of_mem)) (by repeat (first | exact List.mem_cons_self | apply List.mem_cons_of_mem)) (by have := HL.out; omega)).mono ?_); rintro e w' ⟨A, cp, rfl, hE⟩; clear HE; have HE := Aside0.mk hE; clear hE)
    | (go_at_call 12; (with_reducible refine (ofE HE.out (by repeat (first | exact List.mem_cons_self | apply List.mem_cons_of_mem)) (by have := HL.out; omega)).mono ?_); rintro e w' ⟨A, cp, rfl, hE⟩; clear HE; have HE := Aside0.mk hE; clear hE)
    | (go_at_call 9; (with_reducible refine (sameT HE.out (by repeat (first | exact List.mem_cons_self | apply List.mem_cons_of_mem)) (by repeat (first | exact List.mem_cons_self | apply List.mem_cons_of_mem)) (by have := HL.out; omega) (by first | exact join_assoc _ _ _ | exact meet_assoc _ _ _ | exact meet_join _ _ _ | exact of_of _ | exact join_comm _ _ | exact meet_comm _ _)).mono ?_); rintro e w' ⟨rfl, hE⟩; clear HE; have HE := Aside0.mk hE; clear hE)
    | (go_at_call 13; (with_reducible refine (awakeE HE.out).mono ?_); rintro e w' ⟨rfl, hE⟩; clear HE; have HE := Aside0.mk hE; clear hE))
  go_ret
  exact ⟨rfl, HE.out.below⟩
end Go.Proofs.Ytpidbaaojgdpmaa.SetW
