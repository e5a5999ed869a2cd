/- The machine's has: are there as many numbers as an instruction takes, and room. -/
import Derived.Test.YtbdamgopggeikaaVmB
namespace Go.Proofs.Ytbdamgopggeikaa.VmW
open Go.RowKit Go.Proofs.YtbdamgopggeikaaW.PrintWords Go.Proofs.YtbdamgopggeikaaW.PrintMore Go.Proofs.YtbdamgopggeikaaW.PrintLast Go.Proofs.Ytbdamgopggeikaa.Pvm
set_option linter.unusedVariables false
set_option linter.unusedSimpArgs false
def BPost (W : World) (b : Bool) (e : Ending) (W' : World) : Prop := e = .returned (.bool b) ∧ Below W.heap.size W W'
theorem bpost {W W' : World} {b c : Bool} {e : Ending} (he : e = .returned (.bool c)) (hb : Below W.heap.size W W') (hc : c = b) : BPost W b e W' := ⟨hc ▸ he, hb⟩
theorem one_of {op : Int} : op = 1 ∨ op = 3 ∨ op = 2 ∨ op = 17 ∨ op = 18 ∨ op = 21 ∨ op = 20 ∨ op = 22 ∨ op = 23 ∨ op = 24 ∨ op = 25 ∨ (op ≠ 1 ∧ op ≠ 3 ∧ op ≠ 2 ∧ op ≠ 17 ∧ op ≠ 18 ∧ op ≠ 21 ∧ op ≠ 20 ∧ op ≠ 22 ∧ op ≠ 23 ∧ op ≠ 24 ∧ op ≠ 25) := by omega
set_option maxHeartbeats 4000000 in
set_option maxRecDepth 100000 in
theorem has_calls (W : World) (g : Nat) (A : Option Addr) (n c : Nat) (op a : Int) (hc : W.cell? ⟨g, 2, none⟩ = some (.slice A n c)) (hn : n ≤ 64) :
    Calls Try.prog 36 #[.pointer (some ⟨g, 0, none⟩), .agg #[.int .i64 op, .int .i64 a]] W (BPost W (hasP op a n)) := by
  have hu := Try.underlying51
  have hgl := World.block_lt_of_cell? W _ hc
  have hc1 : (W.alloc (.cells #[.int .i64 op, .int .i64 a] 51)).cell? ⟨g, 2, none⟩ = some (.slice A n c) := ((below_alloc (Below.refl W.heap.size W) _).cell (p := ⟨g, 2, none⟩) hgl).trans hc
  have HB := Aside0.mk (below_alloc (Below.refl W.heap.size W) (.cells #[.int .i64 op, .int .i64 a] 51))
  have HN := Aside0.mk hn
  have hn0 : (n : Int) ≤ 64 := by omega
  clear hc hgl hn
  rcases one_of (op := op) with rfl | rfl | rfl | rfl | rfl | rfl | rfl | rfl | rfl | rfl | rfl | ⟨n1, n3, n2, n17, n18, n21, n20, n22, n23, n24, n25⟩
  case inr.inl =>
    by_cases h : a < (n : Int)
    · have t0 : decide ((n : Int) > a) = true := decide_eq_true h
      have t1 : decide (a < (n : Int)) = true := decide_eq_true h
      have HH := Aside0.mk h
      clear h
      go_enter Try.func36, Try.ntmps36
      go_wp2
      go_ret
      exact bpost rfl HB.out (by have := HH.out; unfold hasP; simp [this]; try omega)
    · have t0 : decide ((n : Int) > a) = false := decide_eq_false h
      have t1 : decide (a < (n : Int)) = false := decide_eq_false h
      have HH := Aside0.mk h
      clear h
      go_enter Try.func36, Try.ntmps36
      go_wp2
      go_ret
      exact bpost rfl HB.out (by have := HH.out; unfold hasP; simp [this]; try omega)
  case inr.inr.inr.inr.inr.inr.inr.inr.inr.inr.inr =>
    have HE := Aside0.mk (And.intro n1 (And.intro n3 (And.intro n2 (And.intro n17 (And.intro n18 (And.intro n21 (And.intro n20 (And.intro n22 (And.intro n23 (And.intro n24 n25))))))))))
    replace n1 : (op == 1) = false := by simpa using n1
    replace n3 : (op == 3) = false := by simpa using n3
    replace n2 : (op == 2) = false := by simpa using n2
    replace n17 : (op == 17) = false := by simpa using n17
    replace n18 : (op == 18) = false := by simpa using n18
    replace n21 : (op == 21) = false := by simpa using n21
    replace n20 : (op == 20) = false := by simpa using n20
    replace n22 : (op == 22) = false := by simpa using n22
    replace n23 : (op == 23) = false := by simpa using n23
    replace n24 : (op == 24) = false := by simpa using n24
    replace n25 : (op == 25) = false := by simpa using n25
    go_enter Try.func36, Try.ntmps36
    go_wp2
    go_ret
    exact bpost rfl HB.out (by obtain ⟨a1, a2, a3, a4, a5, a6, a7, a8, a9, a10, a11⟩ := HE.out; unfold hasP; rw [if_neg a1, if_neg a2, if_neg (by omega), if_neg (by omega)]; rw [Bool.eq_iff_iff]; simp; omega)
  all_goals
    go_enter Try.func36, Try.ntmps36
    go_wp2
    go_ret
    exact bpost rfl HB.out (by unfold hasP; first | rfl | (simp; done) | (rw [Bool.eq_iff_iff]; simp; omega))
end Go.Proofs.Ytbdamgopggeikaa.VmW
