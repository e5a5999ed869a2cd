/- awake: a label's text read, two flows of constants; label.Flows as a contract. -/
import Derived.Test.YtdmgcbelnnggbaaGreatDoorLabParse2
import Derived.Test.YtdmgcbelnnggbaaGreatDoorHandLit
import Derived.Test.YtdmgcbelnnggbaaGreatDoorSetC2
namespace Go.Proofs.YtdmgcbelnnggbaaGreatDoor.LabW
open Go.RowKit Go.Sort Go.Lib Go.Proofs.YtdmgcbelnnggbaaGreatDoorW.PrintWords Go.Proofs.YtdmgcbelnnggbaaGreatDoorW.PrintMore Go.Proofs.YtdmgcbelnnggbaaGreatDoor.LabF Go.Proofs.YtdmgcbelnnggbaaGreatDoor.SetF
set_option linter.unusedVariables false
set_option linter.unusedSimpArgs false
/-- A row of ints that can be read on. -/
def Rd (W : World) (A : Option Addr) (c : Nat) (l : List Int) : Prop := l.length ≤ c ∧ Kd.C (Kd.int .i64) W A l.length l
theorem Rd.step {W W' : World} {A : Option Addr} {c : Nat} {l : List Int} (h : Rd W A c l) (hb : Below W.heap.size W W') : Rd W' A c l := ⟨h.1, Kd.C_below h.2 hb⟩
theorem Rd.nil (W : World) : Rd W none 0 [] := ⟨Nat.le_refl _, Kd.C_nil _ _⟩
def FPost (w : World) (r : List Int × Int) (e : Ending) (w' : World) : Prop := ∃ A c, e = .returned (.tuple #[.slice A r.1.length c, .int .i64 r.2]) ∧ Rd w' A c r.1 ∧ Below w.heap.size w w'
theorem flowsC (A0 : Option Addr) (c0 : Nat) (s0 : List Int) (A1 : Option Addr) (c1 : Nat) (i0 : List Int) (A2 : Option Addr) (c2 : Nat) (s1 : List Int) (A3 : Option Addr) (c3 : Nat) (i1 : List Int) (A4 : Option Addr) (c4 : Nat) (own : List Int) (w : World)
    (h0 : Rd w A0 c0 s0) (h1 : Rd w A1 c1 i0) (h2 : Rd w A2 c2 s1) (h3 : Rd w A3 c3 i1) (h4 : Rd w A4 c4 own) (ho : own.length ≤ 1099511627776) :
    Calls Tryz.prog 14 #[.agg #[.slice A0 s0.length c0, .slice A1 i0.length c1], .agg #[.slice A2 s1.length c2, .slice A3 i1.length c3], .slice A4 own.length c4] w (FPost w (flowsL s0 i0 s1 i1 own)) := by
  obtain ⟨k, hk⟩ := Semlab.flows_ev s0 i0 s1 i1 own ho
  refine (Plab.label_Flows.calls k A0 c0 s0 A1 c1 i0 A2 c2 s1 A3 c3 i1 A4 c4 own (flowsL s0 i0 s1 i1 own).1 (flowsL s0 i0 s1 i1 own).2 w h0.2 h0.1 h1.2 h1.1 h2.2 h2.1 h3.2 h3.1 h4.2 h4.1 (hk k (Nat.le_refl _))).mono ?_
  rintro e w' ⟨v, rfl, hR, hb⟩
  obtain ⟨A, c, rfl, hc, hC⟩ := Kd.R_reads hR
  exact ⟨A, c, rfl, ⟨hc, hC⟩, hb⟩
theorem flow_3 : flowsL [1, 3] [2] [1] [] [3] = ([3], 0) := by
  have hl : lacksL [1, 3] [2] [1] [] = [3] := rises_ext (lacks_rises _ _ _ _) (by unfold Rises; decide) (fun x => by rw [mem_lacks]; simp; omega)
  unfold flowsL
  rw [hl]
  decide
theorem flow_0 : flowsL [1, 3] [2] [1] [] [] = ([], 21) := by
  have hl : lacksL [1, 3] [2] [1] [] = [3] := rises_ext (lacks_rises _ _ _ _) (by unfold Rises; decide) (fun x => by rw [mem_lacks]; simp; omega)
  unfold flowsL
  rw [hl]
  decide
/-- What stands behind Parse: the label's rows, the struct that holds it. -/
theorem parse_here (w : World) (hE : Env w) : Calls Tryz.prog 35 #[.string ⟨#[123, 49, 44, 51, 124, 50, 125]⟩] w fun e w' => ∃ A c B d, e = .returned (.tuple #[.agg #[.slice A 2 c, .slice B 1 d], .int .i64 0]) ∧ Rd w' A c [1, 3] ∧ Rd w' B d [2] ∧ Below w.heap.size w w' := by
  refine (parse_calls ⟨#[123, 49, 44, 51, 124, 50, 125]⟩ (by decide) w hE).mono ?_
  intro e w' h
  have h2 : parseL ⟨#[123, 49, 44, 51, 124, 50, 125]⟩ = some ([1, 3], [2]) := parse_132
  rw [h2] at h
  obtain ⟨A, c, B, d, he, hc, hd, hA, hB, hb⟩ := h
  exact ⟨A, c, B, d, he, ⟨hc, hA⟩, ⟨hd, hB⟩, hb⟩
theorem two_heap (w : World) (a b : Obj) : ((w.alloc a).alloc b).heap[w.heap.size]? = some a ∧ ((w.alloc a).alloc b).heap[w.heap.size + 1]? = some b := by
  refine ⟨((below_alloc (Below.refl _ (w.alloc a)) b).block w.heap.size (by simp)).trans (heap_alloc_new w a), ?_⟩
  have := heap_alloc_new (w.alloc a) b
  rwa [show (w.alloc a).heap.size = w.heap.size + 1 by simp] at this
theorem below_two (w : World) (a b : Obj) : Below w.heap.size w ((w.alloc a).alloc b) := below_alloc (below_alloc (Below.refl _ _) a) b
/-- awake's state behind Parse: the two rows stand in the block of the label. -/
structure AwS (w : World) (g : Nat) (A : Option Addr) (c : Nat) (B : Option Addr) (d : Nat) (W : World) : Prop where
  below : Below w.heap.size w W
  size : g < W.heap.size
  s : W.cell? ⟨g, 0, none⟩ = some (.slice A 2 c)
  i : W.cell? ⟨g, 1, none⟩ = some (.slice B 1 d)
  rs : Rd W A c [1, 3]
  ri : Rd W B d [2]
theorem AwS.step {w : World} {g : Nat} {A : Option Addr} {c : Nat} {B : Option Addr} {d : Nat} {W W' : World} (h : AwS w g A c B d W) (hb : Below W.heap.size W W') : AwS w g A c B d W' :=
  ⟨below_step h.below hb, Nat.lt_of_lt_of_le h.size hb.size, (hb.cell (p := ⟨g, 0, none⟩) h.size).trans h.s, (hb.cell (p := ⟨g, 1, none⟩) h.size).trans h.i, h.rs.step hb, h.ri.step hb⟩
theorem aw_flow3 (w : World) (g : Nat) (A : Option Addr) (c : Nat) (B : Option Addr) (d : Nat) (W : World) (h : AwS w g A c B d W) (n : Nat) (hn : W.heap.size = n) :
    Calls Tryz.prog 14 #[.agg #[.slice A 2 c, .slice B 1 d], .agg #[.slice (some ⟨n, 0, none⟩) 1 1, .slice none 0 0], .slice (some ⟨n + 1, 0, none⟩) 1 1] ((W.alloc (.cells #[.int .i64 1] 3)).alloc (.cells #[.int .i64 3] 3)) fun e w' =>
      ∃ A4 c4, e = .returned (.tuple #[.slice A4 1 c4, .int .i64 0]) ∧ Rd w' A4 c4 [3] ∧ AwS w g A c B d w' := by
  subst hn
  have h2 := two_heap W (.cells #[.int .i64 1] 3) (.cells #[.int .i64 3] 3)
  have hS := h.step (below_two W (.cells #[.int .i64 1] 3) (.cells #[.int .i64 3] 3))
  refine (flowsC A c [1, 3] B d [2] (some ⟨W.heap.size, 0, none⟩) 1 [1] none 0 [] (some ⟨W.heap.size + 1, 0, none⟩) 1 [3] _ hS.rs hS.ri ⟨Nat.le_refl _, Hand.lit_ints _ _ [1] (by simp) h2.1⟩ (Rd.nil _) ⟨Nat.le_refl _, Hand.lit_ints _ _ [3] (by simp) h2.2⟩ (by simp)).mono ?_
  rintro e w' ⟨A4, c4, rfl, hr, hb⟩
  rw [flow_3] at hr ⊢
  exact ⟨A4, c4, rfl, hr, hS.step hb⟩
theorem aw_flow0 (w : World) (g : Nat) (A : Option Addr) (c : Nat) (B : Option Addr) (d : Nat) (A4 : Option Addr) (c4 : Nat) (W : World) (h : AwS w g A c B d W) (hr : Rd W A4 c4 [3]) (n : Nat) (hn : W.heap.size = n) :
    Calls Tryz.prog 14 #[.agg #[.slice A 2 c, .slice B 1 d], .agg #[.slice (some ⟨n, 0, none⟩) 1 1, .slice none 0 0], .slice none 0 0] (W.alloc (.cells #[.int .i64 1] 3)) fun e w' =>
      ∃ A5 c5, e = .returned (.tuple #[.slice A5 0 c5, .int .i64 21]) ∧ Rd w' A4 c4 [3] ∧ AwS w g A c B d w' := by
  subst hn
  have hb0 : Below W.heap.size W (W.alloc (.cells #[.int .i64 1] 3)) := below_alloc (Below.refl _ _) _
  have hS := h.step hb0
  refine (flowsC A c [1, 3] B d [2] (some ⟨W.heap.size, 0, none⟩) 1 [1] none 0 [] none 0 [] _ hS.rs hS.ri ⟨Nat.le_refl _, Hand.lit1 W 1⟩ (Rd.nil _) (Rd.nil _) (by simp)).mono ?_
  rintro e w' ⟨A5, c5, rfl, _, hb⟩
  rw [flow_0]
  exact ⟨A5, c5, rfl, (hr.step hb0).step hb, hS.step hb⟩
theorem aw_same (w : World) (g : Nat) (A : Option Addr) (c : Nat) (B : Option Addr) (d : Nat) (A4 : Option Addr) (c4 : Nat) (W : World) (h : AwS w g A c B d W) (hr : Rd W A4 c4 [3]) (n : Nat) (hn : W.heap.size = n) :
    Calls Tryz.prog 17 #[.slice A4 1 c4, .slice (some ⟨n, 0, none⟩) 1 1] (W.alloc (.cells #[.int .i64 3] 3)) fun e w' => e = .returned (.bool true) ∧ Below w.heap.size w w' := by
  subst hn
  have hb0 : Below W.heap.size W (W.alloc (.cells #[.int .i64 3] 3)) := below_alloc (Below.refl _ _) _
  refine (SetW.same_calls A4 c4 [3] (some ⟨W.heap.size, 0, none⟩) 1 [3] _ (hr.step hb0).2 hr.1 (Hand.lit1 W 3) (Nat.le_refl _) (by simp)).mono ?_
  rintro e w' ⟨he, hb⟩
  exact ⟨by rw [he, decide_eq_true rfl], below_step h.below (below_step hb0 hb)⟩
theorem aw_start (w w1 : World) (A : Option Addr) (c : Nat) (B : Option Addr) (d : Nat) (hb : Below w.heap.size w w1) (hs : Rd w1 A c [1, 3]) (hi : Rd w1 B d [2]) : AwS w w1.heap.size A c B d (w1.alloc (.cells #[.slice A 2 c, .slice B 1 d] 24)) := by
  have hb0 := below_alloc (Below.refl w1.heap.size w1) (.cells #[.slice A 2 c, .slice B 1 d] 24)
  have hn := heap_alloc_new w1 (.cells #[.slice A 2 c, .slice B 1 d] 24)
  exact ⟨below_step hb hb0, by simp, blk_cell hn 0, blk_cell hn 1, hs.step hb0, hi.step hb0⟩
set_option maxHeartbeats 4000000 in
set_option maxRecDepth 100000 in
theorem awake_calls (w : World) (hE : Env w) : Calls Tryz.prog 11 #[] w fun e w' => e = .returned (.bool true) ∧ Below w.heap.size w w' := by
  have hu24 := Tryz.underlying24
  have HE := Aside0.mk hE
  clear hE
  go_enter Tryz.func11, Tryz.ntmps11
  go_wp2_with (first
    | (go_at_call 35; (with_reducible refine (parse_here w HE.out).mono ?_); rintro e w1 ⟨A, c, B, d, rfl, hs, hi, hb⟩; have HS := Aside0.mk (aw_start w w1 A c B d hb hs hi); clear hs hi hb)
    | (go_at_call 14; first
        | ((with_reducible refine (aw_flow3 w _ A c B d _ HS.out _ (by simp)).mono ?_); rintro e w2 ⟨A4, c4, rfl, hr, hs⟩; have s0 := hs.s; have s1 := hs.i; have HR2 := Aside0.mk hr; have HS2 := Aside0.mk hs; clear hr hs)
        | ((with_reducible refine (aw_flow0 w _ A c B d A4 c4 _ HS2.out HR2.out _ rfl).mono ?_); rintro e w3 ⟨A5, c5, rfl, hr, hs⟩; have s3 := hs.s; have s4 := hs.i; have HR3 := Aside0.mk hr; have HS3 := Aside0.mk hs; clear hr hs))
    | (go_at_call 17; (with_reducible refine (aw_same w _ A c B d A4 c4 _ HS3.out HR3.out _ rfl).mono ?_); rintro e w4 ⟨rfl, hb⟩; have HB := Aside0.mk hb; clear hb))
  go_ret
  exact ⟨rfl, HB.out⟩
end Go.Proofs.YtdmgcbelnnggbaaGreatDoor.LabW
