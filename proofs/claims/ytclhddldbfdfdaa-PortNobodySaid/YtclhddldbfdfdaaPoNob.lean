/- Mailboxes that nobody made; the law PortNobody. -/
import Derived.Test.YtclhddldbfdfdaaPoL1
namespace Go.Proofs.Ytclhddldbfdfdaa.PoW
open Go.RowKit Go.Proofs.YtclhddldbfdfdaaW.PrintWords Go.Proofs.YtclhddldbfdfdaaW.PrintMore Go.Proofs.YtclhddldbfdfdaaW.PrintLast Go.Proofs.Ytclhddldbfdfdaa.LabF Go.Proofs.Ytclhddldbfdfdaa.SetF
set_option linter.unusedVariables false
set_option linter.unusedSimpArgs false
def Nob (w : World) (p : Option Addr) : Prop := p = none ∨ ∃ g, p = some ⟨g, 0, none⟩ ∧ w.heap[g]? = some (.cells #[.slice none 0 0] 62 (0, 0))
theorem Nob.below {w w' : World} {p : Option Addr} (h : Nob w p) (hb : Below w.heap.size w w') : Nob w' p := by
  rcases h with h | ⟨g, h1, h2⟩
  · exact .inl h
  · exact .inr ⟨g, h1, blk_below h2 hb⟩
set_option maxHeartbeats 4000000 in
set_option maxRecDepth 100000 in
theorem is_nob (p : Option Addr) (W : World) (h : Nob W p) (who : Int) : Calls Try.prog 22 #[.pointer p, .int .i64 who] W fun e w' => e = .returned (.bool false) ∧ W = w' := by
  rcases h with rfl | ⟨g, rfl, hb⟩
  · go_enter Try.func22, Try.ntmps22
    go_wp2
    go_ret
    exact ⟨rfl, rfl⟩
  · exact is_raw g none 0 0 hb who false (decide_eq_false (by omega))
set_option maxHeartbeats 4000000 in
set_option maxRecDepth 100000 in
theorem send_nob (p : Option Addr) (W : World) (h : Nob W p) (who tw : Int) (A0 A1 A2 : Option Addr) (n0 c0 n1 c1 n2 c2 : Nat) (text : ByteArray) (op : Bool) : Calls Try.prog 9 #[.pointer p, .agg #[.int .i64 who, .slice A0 n0 c0, .slice A1 n1 c1, .slice A2 n2 c2], .int .i64 tw, .string text, .bool op] W fun e w' => e = .returned (.tuple #[.slice none 0 0, .int .i64 1]) ∧ Below W.heap.size W w' := by
  have HN := Aside0.mk (show ∀ W1, W.alloc (.cells #[.int .i64 who, .slice A0 n0 c0, .slice A1 n1 c1, .slice A2 n2 c2] 34) = W1 → Nob W1 p ∧ Below W.heap.size W W1 from fun W1 e => by
    subst e
    have hb := below_alloc (Below.refl W.heap.size W) (.cells #[.int .i64 who, .slice A0 n0 c0, .slice A1 n1 c1, .slice A2 n2 c2] 34)
    exact ⟨h.below hb, hb⟩)
  clear h
  go_enter Try.func9, Try.ntmps9
  go_wp2_with (go_at_call 22; (with_reducible refine (is_nob p _ (HN.out _ rfl).1 who).mono ?_); rintro e w1 ⟨rfl, hw⟩; have HB := Aside0.mk (HN.out w1 hw).2; clear hw)
  go_ret2
  exact ⟨rfl, HB.out⟩
set_option maxHeartbeats 4000000 in
set_option maxRecDepth 100000 in
theorem take_nob (p : Option Addr) (W : World) (h : Nob W p) (who : Int) : Calls Try.prog 11 #[.pointer p, .int .i64 who] W fun e w' => e = .returned (.tuple #[.agg #[.int .i64 0, .string ⟨#[]⟩], .bool false]) ∧ Below W.heap.size W w' := by
  have HX := Aside0.mk (show ∀ W1, W.alloc (.cells #[.int .i64 0, .string ⟨#[]⟩] 37) = W1 → Nob W1 p ∧ Below W.heap.size W W1 ∧ W1.heap[W.heap.size]? = some (.cells #[.int .i64 0, .string ⟨#[]⟩] 37 (0, 0)) from fun W1 e => by
    subst e
    have hb := below_alloc (Below.refl W.heap.size W) (.cells #[.int .i64 0, .string ⟨#[]⟩] 37)
    exact ⟨h.below hb, hb, heap_alloc_new W _⟩)
  clear h
  go_enter Try.func11, Try.ntmps11
  go_wp2_with (go_at_call 22; (with_reducible refine (is_nob p _ (HX.out _ rfl).1 who).mono ?_); rintro e w1 ⟨rfl, hW1⟩; obtain ⟨hp, hb, hx⟩ := HX.out w1 hW1; have m0 : w1.cell? ⟨W.heap.size, 0, none⟩ = some (.int .i64 0) := blk_cell hx 0; have m1 : w1.cell? ⟨W.heap.size, 1, none⟩ = some (.string ⟨#[]⟩) := blk_cell hx 1; have g0 : w1.frozen? ⟨W.heap.size, 0, none⟩ = false := blk_frozen hx 0; have g1 : w1.frozen? ⟨W.heap.size, 1, none⟩ = false := blk_frozen hx 1; have HB := Aside0.mk hb; clear hp hb hx HX hW1)
  exact bodyPost_ret (v := .tuple #[.agg #[.int .i64 0, .string ⟨#[]⟩], .bool false]) (by simp [results, Try.results11, go_sem, m0, m1]) rfl ⟨rfl, (HB.out.setCell (p := ⟨W.heap.size, 0, none⟩) (Nat.le_refl _) _).setCell (p := ⟨W.heap.size, 1, none⟩) (Nat.le_refl _) _⟩
set_option maxHeartbeats 4000000 in
set_option maxRecDepth 100000 in
theorem len_nob (p : Option Addr) (W : World) (h : Nob W p) (who : Int) : Calls Try.prog 13 #[.pointer p, .int .i64 who] W fun e w' => e = .returned (.int .i64 0) ∧ W = w' := by
  have HN := Aside0.mk (is_nob p W h who)
  clear h
  go_enter Try.func13, Try.ntmps13
  go_wp2_with (go_at_call 22; (with_reducible refine HN.out.mono ?_); rintro e w1 ⟨rfl, rfl⟩)
  go_ret
  exact ⟨rfl, rfl⟩
set_option maxHeartbeats 4000000 in
set_option maxRecDepth 100000 in
theorem copy_nob (p : Option Addr) (W : World) (h : Nob W p) : Calls Try.prog 19 #[.pointer p] W fun e w' => e = .returned (.pointer none) ∧ W = w' := by
  rcases h with rfl | ⟨g, rfl, hb⟩
  · go_enter Try.func19, Try.ntmps19
    go_wp2
    go_ret
    exact ⟨rfl, rfl⟩
  · have r0 : W.cell? ⟨g, 0, none⟩ = some (.slice none 0 0) := blk_cell hb 0
    clear hb
    go_enter Try.func19, Try.ntmps19
    go_wp2
    go_ret
    exact ⟨rfl, rfl⟩
def nobPtr (w : World) (k : Nat) : Option Addr := if k = 0 then none else some ⟨w.heap.size + 1, 0, none⟩
/-- What the law lays: the subject's box, an empty one, the list of the two. -/
structure NobIn (w : World) (who : Int) (A0 : Option Addr) (n0 c0 : Nat) (A1 : Option Addr) (n1 c1 : Nat) (A2 : Option Addr) (n2 c2 : Nat) (W : World) : Prop where
  below : Below w.heap.size w W
  bx : W.heap[w.heap.size]? = some (.cells #[.int .i64 who, .slice A0 n0 c0, .slice A1 n1 c1, .slice A2 n2 c2] 34 (0, 0))
  nob : ∀ k, Nob W (nobPtr w k)
  lst : W.heap[w.heap.size + 1 + 1]? = some (.cells #[.pointer none, .pointer (some ⟨w.heap.size + 1, 0, none⟩)] 24 (0, 0))
theorem NobIn.step {w W W' : World} {who : Int} {A0 A1 A2 : Option Addr} {n0 c0 n1 c1 n2 c2 : Nat} (h : NobIn w who A0 n0 c0 A1 n1 c1 A2 n2 c2 W) (hb : Below W.heap.size W W') : NobIn w who A0 n0 c0 A1 n1 c1 A2 n2 c2 W' :=
  ⟨below_step h.below hb, blk_below h.bx hb, fun k => (h.nob k).below hb, blk_below h.lst hb⟩
set_option maxHeartbeats 4000000 in
set_option maxRecDepth 100000 in
theorem portNobody_calls (who : Int) (A0 A1 A2 : Option Addr) (n0 c0 n1 c1 n2 c2 : Nat) (tw : Int) (w : World) : Calls Try.prog 7 #[.agg #[.int .i64 who, .slice A0 n0 c0, .slice A1 n1 c1, .slice A2 n2 c2], .int .i64 tw] w fun e w' => e = .returned (.bool true) ∧ Below w.heap.size w w' := by
  have HX := Aside0.mk (show ∀ W2, (((w.alloc (.cells #[.int .i64 who, .slice A0 n0 c0, .slice A1 n1 c1, .slice A2 n2 c2] 34)).alloc (.cells #[.slice none 0 0] 62)).alloc (.cells #[.pointer none, .pointer (some ⟨w.heap.size + 1, 0, none⟩)] 24)) = W2 → NobIn w who A0 n0 c0 A1 n1 c1 A2 n2 c2 W2 from fun W2 e => by
    subst e
    have n1_ := heap_alloc_new w (.cells #[.int .i64 who, .slice A0 n0 c0, .slice A1 n1 c1, .slice A2 n2 c2] 34)
    have n2_ := heap_alloc_new (w.alloc (.cells #[.int .i64 who, .slice A0 n0 c0, .slice A1 n1 c1, .slice A2 n2 c2] 34)) (.cells #[.slice none 0 0] 62)
    have n3_ := heap_alloc_new ((w.alloc (.cells #[.int .i64 who, .slice A0 n0 c0, .slice A1 n1 c1, .slice A2 n2 c2] 34)).alloc (.cells #[.slice none 0 0] 62)) (.cells #[.pointer none, .pointer (some ⟨w.heap.size + 1, 0, none⟩)] 24)
    rw [World.size_alloc] at n2_
    rw [World.size_alloc, World.size_alloc] at n3_
    refine ⟨below_alloc (below_alloc (below_alloc (Below.refl w.heap.size w) _) _) _, blk_alloc (blk_alloc n1_ _) _, fun k => ?_, n3_⟩
    unfold nobPtr
    split
    · exact .inl rfl
    · exact .inr ⟨_, rfl, blk_alloc n2_ _⟩)
  have hEq := fun (w : World) => eqM (0, ⟨#[]⟩) (0, ⟨#[]⟩) w
  go_enter Try.func7, Try.ntmps7
  go_wp2
  generalize hW : World.alloc (World.alloc (World.alloc w _) _) _ = W2
  have HI := Aside0.mk (HX.out W2 hW)
  clear HX hW
  go_loopw [6] (fun i wr => (∃ k : Nat, k ≤ 2 ∧ i = .int .i64 (k : Int)) ∧ Aside0 (NobIn w who A0 n0 c0 A1 n1 c1 A2 n2 c2 wr)) (fun i _ => 2 - (intOf i).toNat)
  case atStart => exact ⟨⟨0, by omega, rfl⟩, HI⟩
  case round =>
    clear HI
    obtain ⟨⟨k, hk, rfl⟩, HI⟩ := hrel
    by_cases hlt : k < 2
    · have c : wr.cell? ⟨w.heap.size + 1 + 1, k, none⟩ = some (.pointer (nobPtr w k)) := by
        refine (blk_cell HI.out.lst k).trans ?_
        rcases k with _ | _ | k
        · rfl
        · rfl
        · omega
      have x0 : wr.cell? ⟨w.heap.size, 0, none⟩ = some (.int .i64 who) := blk_cell HI.out.bx 0
      have x1 : wr.cell? ⟨w.heap.size, 1, none⟩ = some (.slice A0 n0 c0) := blk_cell HI.out.bx 1
      have x2 : wr.cell? ⟨w.heap.size, 2, none⟩ = some (.slice A1 n1 c1) := blk_cell HI.out.bx 2
      have x3 : wr.cell? ⟨w.heap.size, 3, none⟩ = some (.slice A2 n2 c2) := blk_cell HI.out.bx 3
      have hn := HI.out.nob k
      have i1 : (k : Int) < 2 := by omega
      have HN := Aside0.mk hn
      clear hn
      generalize nobPtr w k = p at c HN
      go_wp2_with (first
        | (go_at_call 9; (with_reducible refine (send_nob p wr HN.out _ _ _ _ _ _ _ _ _ _ _ _ _).mono ?_); rintro e w1 ⟨rfl, hb⟩; have nN := Aside0.mk (HN.out.below hb); have nI := Aside0.mk (HI.out.step hb); clear HN HI hb x0 x1 x2 x3 c; have HN := nN; have HI := nI; clear nN nI)
        | (go_at_call 11; (with_reducible refine (take_nob p _ HN.out _).mono ?_); rintro e w2 ⟨rfl, hb⟩; have hb2 := below_step hb (below_alloc (Below.refl w2.heap.size w2) (.cells #[.int .i64 0, .string ⟨#[]⟩] 37)); have nN := Aside0.mk (HN.out.below hb2); have nI := Aside0.mk (HI.out.step hb2); clear HN HI hb hb2; have HN := nN; have HI := nI; clear nN nI)
        | (go_at_call 13; (with_reducible refine (len_nob p _ HN.out _).mono ?_); rintro e w3 ⟨rfl, rfl⟩)
        | (go_at_call 19; (with_reducible refine (copy_nob p _ HN.out).mono ?_); rintro e w4 ⟨rfl, rfl⟩))
      exact ⟨⟨⟨k + 1, by omega, by go_num⟩, HI⟩, by simp [intOf]; omega⟩
    · have i1 : ¬ (k : Int) < 2 := by omega
      go_wp2_with (go_at_call 12; refine (awake_calls _).mono ?_; rintro e w3 ⟨rfl, hb⟩; have HB3 := Aside0.mk (below_step HI.out.below hb); clear hb)
      go_ret
      exact ⟨rfl, HB3.out⟩
end Go.Proofs.Ytclhddldbfdfdaa.PoW
