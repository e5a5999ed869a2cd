/- vm.Run: walked. -/
import Derived.Test.YtbdamgopggeikaaVmRun
namespace Go.Proofs.Ytbdamgopggeikaa.VmW
open Go.RowKit Go.Proofs.YtbdamgopggeikaaW.PrintWords Go.Proofs.YtbdamgopggeikaaW.PrintMore Go.Proofs.YtbdamgopggeikaaW.PrintLast Go.Proofs.Ytbdamgopggeikaa.Pvm
set_option linter.unusedVariables false
set_option linter.unusedSimpArgs false
/-- The boxes at a run's beginning. -/
structure R0 (W W' : World) (bx : Array Value) : Prop where
  below : Below W.heap.size W W'
  b0 : W'.heap[W.heap.size]? = some (.cells bx 25 (0, 0))
  b8 : W'.heap[W.heap.size + 1]? = some (.cells #[.int .i64 0, .slice none 0 0, .slice none 0 0] 25 (0, 0))
  b9 : W'.heap[W.heap.size + 2]? = some (.cells #[.int .i64 0, .int .i64 0, .int .i64 0] 33 (0, 0))
theorem R0.mk_ (W : World) (bx : Array Value) : R0 W (((W.alloc (.cells bx 25)).alloc (.cells #[.int .i64 0, .slice none 0 0, .slice none 0 0] 25)).alloc (.cells #[.int .i64 0, .int .i64 0, .int .i64 0] 33)) bx := by
  have e1 : (W.alloc (.cells bx 25)).heap.size = W.heap.size + 1 := by simp
  have e2 : ((W.alloc (.cells bx 25)).alloc (.cells #[.int .i64 0, .slice none 0 0, .slice none 0 0] 25)).heap.size = W.heap.size + 2 := by simp
  refine ⟨below_alloc (below_alloc (below_alloc (Below.refl _ _) _) _) _, ?_, ?_, ?_⟩
  · exact (heap_alloc_old _ _ (by simp; omega)).trans ((heap_alloc_old _ _ (by simp)).trans (heap_alloc_new W _))
  · rw [← e1]; exact (heap_alloc_old _ _ (by simp)).trans (heap_alloc_new (W.alloc _) _)
  · rw [← e2]; exact heap_alloc_new _ _
theorem R0.step {W W' W2 : World} {bx : Array Value} (h : R0 W W' bx) (hb : Below W'.heap.size W' W2) : R0 W W2 bx :=
  ⟨below_step h.below hb, (hb.block _ (blk_lt h.b0)).trans h.b0, (hb.block _ (blk_lt h.b8)).trans h.b8, (hb.block _ (blk_lt h.b9)).trans h.b9⟩
theorem R0.cells {W W' : World} {x y z : Value} (h : R0 W W' #[x, y, z]) :
    W'.cell? ⟨W.heap.size, 0, none⟩ = some x ∧ W'.cell? ⟨W.heap.size, 1, none⟩ = some y ∧ W'.cell? ⟨W.heap.size, 2, none⟩ = some z ∧
    W'.cell? ⟨W.heap.size + 1, 0, none⟩ = some (.int .i64 0) ∧ W'.cell? ⟨W.heap.size + 1, 1, none⟩ = some (.slice none 0 0) ∧ W'.cell? ⟨W.heap.size + 1, 2, none⟩ = some (.slice none 0 0) ∧ W'.frozen? ⟨W.heap.size + 1, 0, none⟩ = false ∧ W'.frozen? ⟨W.heap.size + 1, 1, none⟩ = false ∧ W'.frozen? ⟨W.heap.size + 1, 2, none⟩ = false ∧
    W'.cell? ⟨W.heap.size + 2, 0, none⟩ = some (.int .i64 0) ∧ W'.cell? ⟨W.heap.size + 2, 1, none⟩ = some (.int .i64 0) ∧ W'.cell? ⟨W.heap.size + 2, 2, none⟩ = some (.int .i64 0) ∧ W'.frozen? ⟨W.heap.size + 2, 0, none⟩ = false ∧ W'.frozen? ⟨W.heap.size + 2, 1, none⟩ = false ∧ W'.frozen? ⟨W.heap.size + 2, 2, none⟩ = false :=
  ⟨blk_cell h.b0 0, blk_cell h.b0 1, blk_cell h.b0 2, blk_cell h.b8 0, blk_cell h.b8 1, blk_cell h.b8 2, blk_frozen h.b8 0, blk_frozen h.b8 1, blk_frozen h.b8 2, blk_cell h.b9 0, blk_cell h.b9 1, blk_cell h.b9 2, blk_frozen h.b9 0, blk_frozen h.b9 1, blk_frozen h.b9 2⟩
theorem R0.out {W W' : World} {bx : Array Value} (h : R0 W W' bx) (a b c x y z : Value) :
    (outW W W' a b c x y z).heap[W.heap.size + 1]? = some (.cells #[a, b, c] 25 (0, 0)) ∧ (outW W W' a b c x y z).heap[W.heap.size + 2]? = some (.cells #[x, y, z] 33 (0, 0)) ∧ Below W.heap.size W (outW W W' a b c x y z) := by
  have n1 : W.heap.size + 1 ≠ W.heap.size + 2 := by omega
  have h8 := blk_set (blk_set (blk_set h.b8 0 a) 1 b) 2 c
  have h9 := blk_far (blk_far (blk_far h.b9 (p := ⟨W.heap.size + 1, 0, none⟩) n1.symm a) (p := ⟨W.heap.size + 1, 1, none⟩) n1.symm b) (p := ⟨W.heap.size + 1, 2, none⟩) n1.symm c
  refine ⟨blk_far (blk_far (blk_far h8 (p := ⟨W.heap.size + 2, 0, none⟩) n1 x) (p := ⟨W.heap.size + 2, 1, none⟩) n1 y) (p := ⟨W.heap.size + 2, 2, none⟩) n1 z, blk_set (blk_set (blk_set h9 0 x) 1 y) 2 z, ?_⟩
  exact (((((h.below.setCell (p := ⟨W.heap.size + 1, 0, none⟩) (by show W.heap.size ≤ W.heap.size + 1; omega) a).setCell (p := ⟨W.heap.size + 1, 1, none⟩) (by show W.heap.size ≤ W.heap.size + 1; omega) b).setCell (p := ⟨W.heap.size + 1, 2, none⟩) (by show W.heap.size ≤ W.heap.size + 1; omega) c).setCell (p := ⟨W.heap.size + 2, 0, none⟩) (by show W.heap.size ≤ W.heap.size + 2; omega) x).setCell (p := ⟨W.heap.size + 2, 1, none⟩) (by show W.heap.size ≤ W.heap.size + 2; omega) y).setCell (p := ⟨W.heap.size + 2, 2, none⟩) (by show W.heap.size ≤ W.heap.size + 2; omega) z
/-- Nothing is run. -/
theorem run_none {W W' : World} {p : Value} {f : Nat → Prop} {m : Mem} (hm : MemP W p f m) (hb : Below W.heap.size W W') (err : Int) : RunPost W p f ⟨⟨0, [], []⟩, m, 0, 0, 0, err⟩ (.returned (.tuple #[.agg #[.int .i64 0, .slice none 0 0, .slice none 0 0], .agg #[.int .i64 0, .int .i64 0, .int .i64 0], .int .i64 err])) W' :=
  ⟨none, 0, none, 0, f, rfl, own_nil _ _ _ _, own_nil _ _ _ _, ne_nil _, hm.mv (Mv.of_below hb (fun _ => False)) (fun _ _ e => e), Mv.of_below hb f, fun k e => .inl e, fun k _ => ⟨by simp [Value.ownBlock], by simp [Value.ownBlock]⟩⟩
def NonePost (W : World) (err : Int) (e : Ending) (W' : World) : Prop := e = .returned (.tuple #[.agg #[.int .i64 0, .slice none 0 0, .slice none 0 0], .agg #[.int .i64 0, .int .i64 0, .int .i64 0], .int .i64 err]) ∧ Below W.heap.size W W'
set_option maxHeartbeats 4000000 in
set_option maxRecDepth 100000 in
/-- The code may not be: whatever the memory is. -/
theorem run_code (W : World) (Ac : Option Addr) (cc : Nat) (code : List In) (hC : Kd.C kIn W Ac code.length code) (hcap : code.length ≤ cc) (x y z v : Value) (fuel : Int) (hne : (chkP code).1 ≠ 0) :
    Calls Try.prog 13 #[.slice Ac code.length cc, .agg #[x, y, z], v, .int .i64 fuel] W (NonePost W (chkP code).1) := by
  have hu := Try.underlying25
  have h0 := R0.mk_ W #[x, y, z]
  have HK := Aside0.mk (check_calls _ Ac cc code (Kd.C_below hC h0.below) hcap)
  have tn : ((chkP code).1 != 0) = true := by simpa using hne
  have H0 := Aside0.mk h0
  clear hC hcap h0 hne
  generalize chkP code = r at *
  go_enter Try.func13, Try.ntmps13
  go_wp2_with (go_at_call 24; (with_reducible refine HK.out.mono ?_); rintro e w1 ⟨rfl, hb⟩; have H1 := Aside0.mk (H0.out.step hb); clear hb; obtain ⟨a0, a1, a2, a3, a4, a5, a6, a7, a8, a9, b0, b1, b2, b3, b4⟩ := H1.out.cells)
  obtain ⟨o8, o9, ob⟩ := H1.out.out (.int .i64 0) (.slice none 0 0) (.slice none 0 0) (.int .i64 0) (.int .i64 0) (.int .i64 0)
  unfold outW at o8 o9 ob
  have e0 := blk_cell o8 0
  have e1 := blk_cell o8 1
  have e2 := blk_cell o8 2
  have e3 := blk_cell o9 0
  have e4 := blk_cell o9 1
  have e5 := blk_cell o9 2
  simp only [List.getElem?_toArray, List.getElem?_cons_zero, List.getElem?_cons_succ] at e0 e1 e2 e3 e4 e5
  exact bodyPost_ret (v := .tuple #[.agg #[.int .i64 0, .slice none 0 0, .slice none 0 0], .agg #[.int .i64 0, .int .i64 0, .int .i64 0], .int .i64 r.1]) (by simp [results, Try.results13, go_sem, e0, e1, e2, e3, e4, e5]) rfl ⟨rfl, ob⟩
end Go.Proofs.Ytbdamgopggeikaa.VmW
