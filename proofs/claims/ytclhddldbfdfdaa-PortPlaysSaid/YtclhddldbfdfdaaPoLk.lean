/- The reference's Lacks. -/
import Derived.Test.YtclhddldbfdfdaaHandLit
import Derived.Test.YtclhddldbfdfdaaPbasex
namespace Go.Proofs.Ytclhddldbfdfdaa.PoW
open Go.RowKit Go.Proofs.YtclhddldbfdfdaaW.PrintWords
set_option linter.unusedVariables false
set_option linter.unusedSimpArgs false
set_option maxHeartbeats 4000000 in
set_option maxRecDepth 100000 in
theorem lacks_calls (k : Nat) (a0 : Int) (A1 : Option Addr) (c1 : Nat) (l1 : List Int) (A2 : Option Addr) (c2 n2 : Nat) (A3 : Option Addr) (c3 n3 : Nat) (a1 : Int) (r : List Int) (w : World) (h1 : Kd.C (Kd.int .i64) w A1 l1.length l1) (hc1 : l1.length ≤ c1) (h : Pbase.cloisterref01_Less.f k l1 [wrap64 ((wrap64 (2 * a1)) + 1)] = some r) :
    Calls Try.prog 42 #[.agg #[.int .i64 a0, .slice A1 l1.length c1, .slice A2 n2 c2, .slice A3 n3 c3], .int .i64 a1] w fun e w' => ∃ v0_ : Value, e = .returned v0_ ∧ Kd.R (Kd.int .i64) 3 w' w.heap.size (fun _ => True) v0_ r ∧ Below w.heap.size w w' := by
  have HL := Aside0.mk (show Calls Try.prog 14 #[.slice A1 l1.length c1, .slice (some ⟨w.heap.size + 1, 0, none⟩) 1 1] ((w.alloc (.cells #[.int .i64 a0, .slice A1 l1.length c1, .slice A2 n2 c2, .slice A3 n3 c3] 34)).alloc (.cells #[.int .i64 (wrap64 ((wrap64 (2 * a1)) + 1))] 3)) fun e w' => ∃ v0_ : Value, e = .returned v0_ ∧ Kd.R (Kd.int .i64) 3 w' w.heap.size (fun _ => True) v0_ r ∧ Below w.heap.size w w' from by
    have hb := below_alloc (Below.refl w.heap.size w) (.cells #[.int .i64 a0, .slice A1 l1.length c1, .slice A2 n2 c2, .slice A3 n3 c3] 34)
    have hz : (w.alloc (.cells #[.int .i64 a0, .slice A1 l1.length c1, .slice A2 n2 c2, .slice A3 n3 c3] 34)).heap.size = w.heap.size + 1 := by simp
    generalize w.alloc (.cells #[.int .i64 a0, .slice A1 l1.length c1, .slice A2 n2 c2, .slice A3 n3 c3] 34) = W at *
    rw [← hz]
    refine (Pbase.cloisterref01_Less.calls k A1 c1 l1 (some ⟨W.heap.size, 0, none⟩) 1 [wrap64 ((wrap64 (2 * a1)) + 1)] r (W.alloc (.cells #[.int .i64 (wrap64 ((wrap64 (2 * a1)) + 1))] 3)) (Kd.C_alloc (Kd.C_below h1 hb) _) hc1 (Hand.lit1 W _) (Nat.le_refl _) h).mono ?_
    rintro e w' ⟨v, he, hR, hB⟩
    exact ⟨v, he, Kd.R_lower hR (by simp; omega), below_step (below_alloc hb _) hB⟩)
  clear h h1 hc1
  go_enter Try.func42, Try.ntmps42
  go_wp2_with (go_at_call 14; (with_reducible refine HL.out.mono ?_); rintro e w1 ⟨v1, rfl, hR, hb⟩; have HR := Aside0.mk hR; have HB := Aside0.mk hb; clear hR hb)
  go_ret
  exact ⟨_, rfl, HR.out, HB.out⟩
end Go.Proofs.Ytclhddldbfdfdaa.PoW
