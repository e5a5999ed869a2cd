/- One fact for all that a label law carries: rows that can be read on, boxes, the listed variables. Contracts told by it. -/
import Derived.Test.YtdmgcbelnnggbaaGreatDoorLabAwake
import Derived.Test.YtdmgcbelnnggbaaGreatDoorSemLab2
namespace Go.Proofs.YtdmgcbelnnggbaaGreatDoor.LabW
open Go.RowKit Go.Sort Go.Lib Go.Proofs.YtdmgcbelnnggbaaGreatDoorW.PrintWords Go.Proofs.YtdmgcbelnnggbaaGreatDoorW.PrintMore Go.Proofs.YtdmgcbelnnggbaaGreatDoor.LabF Go.Proofs.YtdmgcbelnnggbaaGreatDoor.SetF Go.Proofs.YtdmgcbelnnggbaaGreatDoor.Semlab
set_option linter.unusedVariables false
structure LE (w0 : World) (rs : List (Option Addr × Nat × List Int)) (bs : List (Nat × Value × Value)) (W : World) : Prop where
  below : Below w0.heap.size w0 W
  env : Env W
  rows : ∀ r ∈ rs, Rd W r.1 r.2.1 r.2.2
  box : ∀ b ∈ bs, b.1 < W.heap.size ∧ W.cell? ⟨b.1, 0, none⟩ = some b.2.1 ∧ W.cell? ⟨b.1, 1, none⟩ = some b.2.2
theorem LE.step {w0 W W' : World} {rs : List (Option Addr × Nat × List Int)} {bs : List (Nat × Value × Value)} (h : LE w0 rs bs W) (hb : Below W.heap.size W W') : LE w0 rs bs W' :=
  ⟨below_step h.below hb, h.env.below hb, fun r hr => (h.rows r hr).step hb, fun b hm => ⟨Nat.lt_of_lt_of_le (h.box b hm).1 hb.size, (hb.cell (p := ⟨b.1, 0, none⟩) (h.box b hm).1).trans (h.box b hm).2.1, (hb.cell (p := ⟨b.1, 1, none⟩) (h.box b hm).1).trans (h.box b hm).2.2⟩⟩
theorem LE.drew {w0 W : World} {rs : List (Option Addr × Nat × List Int)} {bs : List (Nat × Value × Value)} (h : LE w0 rs bs W) : LE w0 rs bs W.drew := h.step (below_drew (Below.refl _ _))
theorem LE.add {w0 W : World} {rs : List (Option Addr × Nat × List Int)} {bs : List (Nat × Value × Value)} (h : LE w0 rs bs W) {A : Option Addr} {c : Nat} {l : List Int} (hr : Rd W A c l) : LE w0 ((A, c, l) :: rs) bs W :=
  ⟨h.below, h.env, fun r hm => (List.mem_cons.1 hm).elim (fun e => e ▸ hr) (h.rows r), h.box⟩
theorem LE.boxed {w0 W : World} {rs : List (Option Addr × Nat × List Int)} {bs : List (Nat × Value × Value)} (h : LE w0 rs bs W) (u v : Value) (n : Nat) (hn : n = W.heap.size) : LE w0 rs ((n, u, v) :: bs) (W.alloc (.cells #[u, v] 24)) := by
  subst hn
  have hs := h.step (below_alloc (Below.refl W.heap.size W) (.cells #[u, v] 24))
  have hn := heap_alloc_new W (.cells #[u, v] 24)
  refine ⟨hs.below, hs.env, hs.rows, fun b hm => ?_⟩
  rcases List.mem_cons.1 hm with rfl | hm
  · exact ⟨by simp, blk_cell hn 0, blk_cell hn 1⟩
  · exact hs.box b hm
theorem LE.b1 {w0 W : World} {rs : List (Option Addr × Nat × List Int)} {n : Nat} {u v : Value} {bs : List (Nat × Value × Value)} (h : LE w0 rs ((n, u, v) :: bs) W) : W.cell? ⟨n, 0, none⟩ = some u ∧ W.cell? ⟨n, 1, none⟩ = some v := (h.box _ List.mem_cons_self).2
theorem LE.b2 {w0 W : World} {rs : List (Option Addr × Nat × List Int)} {n m : Nat} {u v x y : Value} {bs : List (Nat × Value × Value)} (h : LE w0 rs ((m, x, y) :: (n, u, v) :: bs) W) : W.cell? ⟨m, 0, none⟩ = some x ∧ W.cell? ⟨m, 1, none⟩ = some y ∧ W.cell? ⟨n, 0, none⟩ = some u ∧ W.cell? ⟨n, 1, none⟩ = some v := by
  have h1 := (h.box _ List.mem_cons_self).2
  have h2 := (h.box _ (List.mem_cons_of_mem _ List.mem_cons_self)).2
  exact ⟨h1.1, h1.2, h2.1, h2.2⟩
theorem LE.b3 {w0 W : World} {rs : List (Option Addr × Nat × List Int)} {n m k : Nat} {u v x y s t : Value} {bs : List (Nat × Value × Value)} (h : LE w0 rs ((k, s, t) :: (m, x, y) :: (n, u, v) :: bs) W) : W.cell? ⟨k, 0, none⟩ = some s ∧ W.cell? ⟨k, 1, none⟩ = some t ∧ W.cell? ⟨m, 0, none⟩ = some x ∧ W.cell? ⟨m, 1, none⟩ = some y ∧ W.cell? ⟨n, 0, none⟩ = some u ∧ W.cell? ⟨n, 1, none⟩ = some v := by
  have h1 := (h.box _ List.mem_cons_self).2
  have h2 := (h.box _ (List.mem_cons_of_mem _ List.mem_cons_self)).2
  have h3 := (h.box _ (List.mem_cons_of_mem _ (List.mem_cons_of_mem _ List.mem_cons_self))).2
  exact ⟨h1.1, h1.2, h2.1, h2.2, h3.1, h3.2⟩
def flowB (as_ ai bs bi : List Int) : Bool := (flowsL as_ ai bs bi []).2 == 0
section
variable {w0 W : World} {rs : List (Option Addr × Nat × List Int)} {bs : List (Nat × Value × Value)} {A0 A1 A2 A3 A4 : Option Addr} {c0 c1 c2 c3 c4 : Nat} {l0 l1 l2 l3 l4 : List Int} {b : Bool}
theorem mayE (h : LE w0 rs bs W) (h0 : (A0, c0, l0) ∈ rs) (h1 : (A1, c1, l1) ∈ rs) (hb : decide (May l0 l1) = b) : Calls Tryz.prog 10 #[.agg #[.slice A0 l0.length c0, .slice A1 l1.length c1]] W fun e w' => e = .returned (.bool b) ∧ LE w0 rs bs w' := by
  obtain ⟨k, hk⟩ := may_ev l0 l1
  exact (Plab.cloisterref02_May.calls k A0 c0 l0 A1 c1 l1 b W (h.rows _ h0).2 (h.rows _ h0).1 (h.rows _ h1).2 (h.rows _ h1).1 (hb ▸ hk k (Nat.le_refl _))).mono fun e w' ⟨he, hb⟩ => ⟨he, h.step hb⟩
theorem lawflowsE (h : LE w0 rs bs W) (h0 : (A0, c0, l0) ∈ rs) (h1 : (A1, c1, l1) ∈ rs) (h2 : (A2, c2, l2) ∈ rs) (h3 : (A3, c3, l3) ∈ rs) (hb : flowB l0 l1 l2 l3 = b) : Calls Tryz.prog 12 #[.agg #[.slice A0 l0.length c0, .slice A1 l1.length c1], .agg #[.slice A2 l2.length c2, .slice A3 l3.length c3]] W fun e w' => e = .returned (.bool b) ∧ LE w0 rs bs w' := by
  obtain ⟨k, hk⟩ := lawflows_ev l0 l1 l2 l3
  subst hb
  exact (Plab.cloisterlaw02_flows.calls k A0 c0 l0 A1 c1 l1 A2 c2 l2 A3 c3 l3 _ W (h.rows _ h0).2 (h.rows _ h0).1 (h.rows _ h1).2 (h.rows _ h1).1 (h.rows _ h2).2 (h.rows _ h2).1 (h.rows _ h3).2 (h.rows _ h3).1 (hk k (Nat.le_refl _))).mono fun e w' ⟨he, hb⟩ => ⟨he, h.step hb⟩
theorem alikeE (h : LE w0 rs bs W) (h0 : (A0, c0, l0) ∈ rs) (h1 : (A1, c1, l1) ∈ rs) (h2 : (A2, c2, l2) ∈ rs) (h3 : (A3, c3, l3) ∈ rs) (k0 : l0.length ≤ 1048576) (k1 : l1.length ≤ 1048576) (hb : decide (l0 = l2 ∧ l1 = l3) = b) : Calls Tryz.prog 13 #[.agg #[.slice A0 l0.length c0, .slice A1 l1.length c1], .agg #[.slice A2 l2.length c2, .slice A3 l3.length c3]] W fun e w' => e = .returned (.bool b) ∧ LE w0 rs bs w' := by
  obtain ⟨k, hk⟩ := alike_ev l0 l1 l2 l3 (by omega) (by omega)
  subst hb
  exact (Plab.cloisterref02_Alike.calls k A0 c0 l0 A1 c1 l1 A2 c2 l2 A3 c3 l3 _ W (h.rows _ h0).2 (h.rows _ h0).1 (h.rows _ h1).2 (h.rows _ h1).1 (h.rows _ h2).2 (h.rows _ h2).1 (h.rows _ h3).2 (h.rows _ h3).1 (hk k (Nat.le_refl _))).mono fun e w' ⟨he, hb⟩ => ⟨he, h.step hb⟩
theorem awakeE (h : LE w0 rs bs W) : Calls Tryz.prog 11 #[] W fun e w' => e = .returned (.bool true) ∧ LE w0 rs bs w' :=
  (awake_calls W h.env).mono fun _ _ ⟨he, hb⟩ => ⟨he, h.step hb⟩
theorem flowsE (h : LE w0 rs bs W) (h0 : (A0, c0, l0) ∈ rs) (h1 : (A1, c1, l1) ∈ rs) (h2 : (A2, c2, l2) ∈ rs) (h3 : (A3, c3, l3) ∈ rs) (h4 : (A4, c4, l4) ∈ rs) (k4 : l4.length ≤ 1099511627776) {r : List Int} {s : Int} (hb : flowsL l0 l1 l2 l3 l4 = (r, s)) : Calls Tryz.prog 14 #[.agg #[.slice A0 l0.length c0, .slice A1 l1.length c1], .agg #[.slice A2 l2.length c2, .slice A3 l3.length c3], .slice A4 l4.length c4] W fun e w' => ∃ A c, e = .returned (.tuple #[.slice A r.length c, .int .i64 s]) ∧ LE w0 ((A, c, r) :: rs) bs w' :=
  (flowsC A0 c0 l0 A1 c1 l1 A2 c2 l2 A3 c3 l3 A4 c4 l4 W (h.rows _ h0) (h.rows _ h1) (h.rows _ h2) (h.rows _ h3) (h.rows _ h4) k4).mono fun e w' ⟨A, c, he, hr, hb'⟩ => by rw [hb] at he hr; exact ⟨A, c, he, (h.step hb').add hr⟩
theorem rflowsE (h : LE w0 rs bs W) (h0 : (A0, c0, l0) ∈ rs) (h1 : (A1, c1, l1) ∈ rs) (h2 : (A2, c2, l2) ∈ rs) (h3 : (A3, c3, l3) ∈ rs) (h4 : (A4, c4, l4) ∈ rs) (k4 : l4.length ≤ 1099511627776) {r : List Int} {s : Int} (hb : flowsL l0 l1 l2 l3 l4 = (r, s)) : Calls Tryz.prog 15 #[.agg #[.slice A0 l0.length c0, .slice A1 l1.length c1], .agg #[.slice A2 l2.length c2, .slice A3 l3.length c3], .slice A4 l4.length c4] W fun e w' => ∃ A c, e = .returned (.tuple #[.slice A r.length c, .int .i64 s]) ∧ LE w0 ((A, c, r) :: rs) bs w' := by
  obtain ⟨k, hk⟩ := rflows_ev l0 l1 l2 l3 l4 k4
  refine (Plab.cloisterref02_Flows.calls k A0 c0 l0 A1 c1 l1 A2 c2 l2 A3 c3 l3 A4 c4 l4 r s W (h.rows _ h0).2 (h.rows _ h0).1 (h.rows _ h1).2 (h.rows _ h1).1 (h.rows _ h2).2 (h.rows _ h2).1 (h.rows _ h3).2 (h.rows _ h3).1 (h.rows _ h4).2 (h.rows _ h4).1 ((hk k (Nat.le_refl _)).trans (congrArg some hb))).mono ?_
  rintro e w' ⟨v, rfl, hR, hb'⟩
  obtain ⟨A, c, rfl, hc, hC⟩ := Kd.R_reads hR
  exact ⟨A, c, rfl, (h.step hb').add ⟨hc, hC⟩⟩
theorem lsameE (h : LE w0 rs bs W) (h0 : (A0, c0, l0) ∈ rs) (h1 : (A1, c1, l1) ∈ rs) (k0 : l0.length ≤ 1099511627776) (hb : decide (l0 = l1) = b) : Calls Tryz.prog 17 #[.slice A0 l0.length c0, .slice A1 l1.length c1] W fun e w' => e = .returned (.bool b) ∧ LE w0 rs bs w' :=
  (SetW.same_calls A0 c0 l0 A1 c1 l1 W (h.rows _ h0).2 (h.rows _ h0).1 (h.rows _ h1).2 (h.rows _ h1).1 (by omega)).mono fun e w' ⟨he, hb'⟩ => ⟨hb ▸ he, h.step hb'⟩
end
end Go.Proofs.YtdmgcbelnnggbaaGreatDoor.LabW
