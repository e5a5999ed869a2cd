/- Rows that can be read on, all told at one world: one fact to carry through a law that is walked by hand. -/
import Derived.Test.YtpidbaaojgdpmaaSetC
namespace Go.Proofs.Ytpidbaaojgdpmaa.SetW
open Go.RowKit Go.Proofs.YtpidbaaojgdpmaaW.PrintWords Go.Proofs.YtpidbaaojgdpmaaW.PrintMore Go.Proofs.Ytpidbaaojgdpmaa.SetF Go.Proofs.Ytpidbaaojgdpmaa.OwnPut
set_option linter.unusedVariables false
structure RowsE (w0 W : World) (rs : List (Option Addr × Nat × List Int)) : Prop where
  below : Below w0.heap.size w0 W
  rows : ∀ r ∈ rs, r.2.2.length ≤ r.2.1 ∧ Kd.C (Kd.int .i64) W r.1 r.2.2.length r.2.2
theorem RowsE.step {w0 W W' : World} {rs : List (Option Addr × Nat × List Int)} (h : RowsE w0 W rs) (hb : Below W.heap.size W W') : RowsE w0 W' rs :=
  ⟨below_step h.below hb, fun r hr => ⟨(h.rows r hr).1, Kd.C_below (h.rows r hr).2 hb⟩⟩
theorem RowsE.add {w0 W : World} {rs : List (Option Addr × Nat × List Int)} (h : RowsE w0 W rs) {A : Option Addr} {c : Nat} {l : List Int} (hc : l.length ≤ c) (hC : Kd.C (Kd.int .i64) W A l.length l) : RowsE w0 W ((A, c, l) :: rs) :=
  ⟨h.below, fun r hr => (List.mem_cons.1 hr).elim (fun e => e ▸ ⟨hc, hC⟩) (h.rows r)⟩
def EPost (w0 : World) (rs : List (Option Addr × Nat × List Int)) (l : List Int) (e : Ending) (w' : World) : Prop := ∃ A c, e = .returned (.slice A l.length c) ∧ RowsE w0 w' ((A, c, l) :: rs)
theorem EPost.of {w0 W : World} {rs : List (Option Addr × Nat × List Int)} (h : RowsE w0 W rs) {l : List Int} {e : Ending} {w' : World} (hp : CPost W l e w') : EPost w0 rs l e w' := by
  obtain ⟨A, c, rfl, hc, hC, hb⟩ := hp
  exact ⟨A, c, rfl, (h.step hb).add hc hC⟩
section
variable {w0 W : World} {rs : List (Option Addr × Nat × List Int)} {A0 A1 : Option Addr} {c0 c1 : Nat} {l0 l1 : List Int}
theorem ofE (h : RowsE w0 W rs) (h0 : (A0, c0, l0) ∈ rs) (hb : l0.length ≤ 1099511627776) : Calls Try.prog 12 #[.slice A0 l0.length c0] W (EPost w0 rs (ofL l0)) :=
  (ofC A0 c0 l0 W (h.rows _ h0).2 (h.rows _ h0).1 (by omega)).mono fun _ _ => EPost.of h
theorem joinE (h : RowsE w0 W rs) (h0 : (A0, c0, l0) ∈ rs) (h1 : (A1, c1, l1) ∈ rs) (hb : l0.length + l1.length ≤ 1099511627776) : Calls Try.prog 10 #[.slice A0 l0.length c0, .slice A1 l1.length c1] W (EPost w0 rs (joinL l0 l1)) :=
  (joinC A0 c0 l0 A1 c1 l1 W (h.rows _ h0).2 (h.rows _ h1).2 (by omega)).mono fun _ _ => EPost.of h
theorem meetE (h : RowsE w0 W rs) (h0 : (A0, c0, l0) ∈ rs) (h1 : (A1, c1, l1) ∈ rs) (hb : l0.length + l1.length ≤ 1099511627776) : Calls Try.prog 11 #[.slice A0 l0.length c0, .slice A1 l1.length c1] W (EPost w0 rs (keptL l0 l1 true)) :=
  (meetC A0 c0 l0 A1 c1 l1 W (h.rows _ h0).2 (h.rows _ h0).1 (h.rows _ h1).2 (h.rows _ h1).1 (by omega) (by omega)).mono fun _ _ => EPost.of h
theorem lessE (h : RowsE w0 W rs) (h0 : (A0, c0, l0) ∈ rs) (h1 : (A1, c1, l1) ∈ rs) (hb : l0.length + l1.length ≤ 1099511627776) : Calls Try.prog 14 #[.slice A0 l0.length c0, .slice A1 l1.length c1] W (EPost w0 rs (keptL l0 l1 false)) :=
  (lessC A0 c0 l0 A1 c1 l1 W (h.rows _ h0).2 (h.rows _ h0).1 (h.rows _ h1).2 (h.rows _ h1).1 (by omega) (by omega)).mono fun _ _ => EPost.of h
theorem withinE (h : RowsE w0 W rs) (h0 : (A0, c0, l0) ∈ rs) (h1 : (A1, c1, l1) ∈ rs) (hb : l0.length + l1.length ≤ 1099511627776) : Calls Try.prog 15 #[.slice A0 l0.length c0, .slice A1 l1.length c1] W fun e w' => e = .returned (.bool (decide ((keptL l0 l1 false).length = 0))) ∧ RowsE w0 w' rs :=
  (within_calls A0 c0 l0 A1 c1 l1 W (h.rows _ h0).2 (h.rows _ h0).1 (h.rows _ h1).2 (h.rows _ h1).1 (by omega) (by omega)).mono fun e w' ⟨he, hb⟩ => ⟨by rw [he]; congr 2; rw [Bool.eq_iff_iff]; simp, h.step hb⟩
theorem sameE (h : RowsE w0 W rs) (h0 : (A0, c0, l0) ∈ rs) (h1 : (A1, c1, l1) ∈ rs) (hb : l0.length ≤ 1099511627776) : Calls Try.prog 9 #[.slice A0 l0.length c0, .slice A1 l1.length c1] W fun e w' => e = .returned (.bool (decide (l0 = l1))) ∧ RowsE w0 w' rs :=
  (same_calls A0 c0 l0 A1 c1 l1 W (h.rows _ h0).2 (h.rows _ h0).1 (h.rows _ h1).2 (h.rows _ h1).1 (by omega)).mono fun e w' ⟨he, hb⟩ => ⟨he, h.step hb⟩
theorem sameT (h : RowsE w0 W rs) (h0 : (A0, c0, l0) ∈ rs) (h1 : (A1, c1, l1) ∈ rs) (hb : l0.length ≤ 1099511627776) (e : l0 = l1) : Calls Try.prog 9 #[.slice A0 l0.length c0, .slice A1 l1.length c1] W fun e w' => e = .returned (.bool true) ∧ RowsE w0 w' rs :=
  (sameE h h0 h1 hb).mono fun _ _ ⟨he, hb⟩ => ⟨by rw [he, decide_eq_true e], hb⟩
theorem awakeE (h : RowsE w0 W rs) : Calls Try.prog 13 #[] W fun e w' => e = .returned (.bool true) ∧ RowsE w0 w' rs :=
  (awake_calls W).mono fun _ _ ⟨he, hb⟩ => ⟨he, h.step hb⟩
end
/- the laws of sets, plainly -/
theorem join_comm (a b : List Int) : joinL a b = joinL b a := rises_ext (joinL_rises _ _) (joinL_rises _ _) fun x => by rw [mem_joinL, mem_joinL]; exact Or.comm
theorem meet_comm (a b : List Int) : keptL a b true = keptL b a true := rises_ext (keptL_rises _ _ _) (keptL_rises _ _ _) fun x => by rw [mem_meet, mem_meet]; exact And.comm
theorem join_assoc (a b c : List Int) : joinL (joinL a b) c = joinL a (joinL b c) := rises_ext (joinL_rises _ _) (joinL_rises _ _) fun x => by simp only [mem_joinL]; exact or_assoc
theorem meet_assoc (a b c : List Int) : keptL (keptL a b true) c true = keptL a (keptL b c true) true := rises_ext (keptL_rises _ _ _) (keptL_rises _ _ _) fun x => by simp only [mem_meet]; exact and_assoc
theorem meet_join (a b c : List Int) : keptL a (joinL b c) true = joinL (keptL a b true) (keptL a c true) := rises_ext (keptL_rises _ _ _) (joinL_rises _ _) fun x => by simp only [mem_meet, mem_joinL]; exact and_or_left
theorem of_of (a : List Int) : ofL (ofL a) = ofL a := ofL_of_rises (ofL_rises a)
end Go.Proofs.Ytpidbaaojgdpmaa.SetW
