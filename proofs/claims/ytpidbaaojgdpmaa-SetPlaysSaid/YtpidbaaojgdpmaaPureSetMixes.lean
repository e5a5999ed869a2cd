/- The pure statement of SetMixes. -/
import Derived.Test.YtpidbaaojgdpmaaStSetMixes
import Derived.Test.YtpidbaaojgdpmaaSemSet
namespace Go.Proofs.Ytpidbaaojgdpmaa.SemM
open Go.RowKit Go.Proofs.YtpidbaaojgdpmaaW.PrintWords Go.Proofs.Ytpidbaaojgdpmaa.PM Go.Proofs.Ytpidbaaojgdpmaa.SetF
set_option linter.unusedVariables false
theorem spoil_l1 : ∀ (d i : Nat) (l : List Int), 20 - i = d → i ≤ 20 → l.length ≤ 1099511627776 + i → Ev (fun k => cloisterlaw01_spoil.l1 k l (i : Int)) () := by
  intro d
  induction d with
  | zero =>
    intro i l h hi hl
    refine Ev.step (f := fun _ => some ()) (fun k => ?_) (Ev.now _)
    simp only [cloisterlaw01_spoil.l1]
    rw [if_neg (by omega)]
  | succ d ih =>
    intro i l h hi hl
    refine Ev.step (f := fun k => cloisterlaw01_spoil.l1 k (l ++ [(-8800)]) ((i + 1 : Nat) : Int)) (fun k => ?_) (ih (i + 1) (l ++ [(-8800)]) (by omega) (by omega) (by simp; omega))
    simp only [cloisterlaw01_spoil.l1]
    rw [if_pos (by omega), if_pos (by omega), w64s (n := 20) (by omega) (by omega)]
theorem spoil_l0 : ∀ (d i : Nat) (l : List Int), l.length - i = d → i ≤ l.length → l.length ≤ 1099511627776 → Ev (fun k => cloisterlaw01_spoil.l0 k l (i : Int)) () := by
  intro d
  induction d with
  | zero =>
    intro i l h hi hl
    refine Ev.step (f := fun k => cloisterlaw01_spoil.l1 k l ((0 : Nat) : Int)) (fun k => ?_) (spoil_l1 20 0 l rfl (by omega) (by omega))
    simp only [cloisterlaw01_spoil.l0]
    rw [if_neg (by omega)]; rfl
  | succ d ih =>
    intro i l h hi hl
    refine Ev.step (f := fun k => cloisterlaw01_spoil.l0 k (l.set i (wrap64 ((-7700) - i))) ((i + 1 : Nat) : Int)) (fun k => ?_) (ih (i + 1) _ (by rw [List.length_set]; omega) (by rw [List.length_set]; omega) (by rw [List.length_set]; omega))
    simp only [cloisterlaw01_spoil.l0]
    rw [if_pos (by omega), if_pos (by omega), w64s (n := l.length) (by omega) (by omega), Int.toNat_natCast]
theorem spoil_ev (l : List Int) (hl : l.length ≤ 1099511627776) : Ev (fun k => cloisterlaw01_spoil.f k l) () := spoil_l0 l.length 0 l rfl (Nat.zero_le _) hl
theorem kept_len (a b : List Int) (i : Bool) : (keptL a b i).length ≤ a.length := Nat.le_trans (by unfold keptL; exact List.length_filter_le _ _) (ofL_len a)
theorem join_len (a b : List Int) : (joinL a b).length ≤ a.length + b.length := by unfold joinL; have := ofL_len (a ++ b); simpa using this
theorem has_now (a : List Int) (x : Int) (ha : a.length ≤ 1099511627776) : set_Has_int.f a x = some (decide (x ∈ a)) := by
  unfold set_Has_int.f slices_Contains_int_int.f SetW.hasG
  rw [if_pos (by omega)]
  simp
theorem mixes_ev (a b : List Int) (x : Int) (ha : a.length ≤ 1048576) (hb : b.length ≤ 1048576) : Ev (fun k => cloisterlaw01_SetMixes.f k a b x) true := by
  have l1 := ofL_len a
  have l2 := join_len a b
  have l3 := kept_len a b true
  have l4 := kept_len a b false
  have eO : ∀ k, set_Of_int.f k a = some (ofL a) := fun k => if_pos (by omega)
  have eJ : ∀ k, set_Join_int.f k a b = some (joinL a b) := fun k => if_pos (by omega)
  have eM : ∀ k, set_Meet_int.f k a b = some (keptL a b true) := fun k => if_pos ⟨by omega, by omega⟩
  have eL : ∀ k, set_Less_int.f k a b = some (keptL a b false) := fun k => if_pos ⟨by omega, by omega⟩
  have eW : ∀ k, set_Within_int.f k a b = some (((keptL a b false).length : Int) == 0) := fun k => by unfold set_Within_int.f; rw [eL]; rfl
  have hj : Ev (fun k => cloisterlaw01_SetMixes.j0 k a b a b (ofL a) (joinL a b) (keptL a b true) (keptL a b false) true) true := by
    refine Ev.step (fun k => by rw [cloisterlaw01_SetMixes.j0]) ?_
    refine Ev.bind (spoil_ev _ (by omega)) (Ev.bind (spoil_ev _ (by omega)) (Ev.bind (spoil_ev _ (by omega)) (Ev.bind (spoil_ev _ (by omega)) ?_)))
    refine Ev.congr (fun k => if_pos rfl) (Ev.bind (same_ev_t rfl (by omega)) (Ev.congr (fun k => if_pos rfl) (Ev.bind (same_ev_t rfl (by omega)) (Ev.congr (fun k => if_pos rfl) (Ev.now _)))))
  have hA : a.length < 17592186044416 := by omega
  have hB : b.length < 17592186044416 := by omega
  simp only [cloisterlaw01_SetMixes.f, List.nil_append, List.length_nil, Nat.zero_add, if_pos hA, if_pos hB, Option.bind_some, eO, eJ, eM, eL, has_now a x (by omega), eW]
  refine Ev.bind (of_ev a (by omega)) (Ev.bind (same_ev_t rfl (by omega)) (Ev.congr (fun k => if_pos rfl) ?_))
  refine Ev.bind (join_ev a b (by omega)) (Ev.bind (same_ev_t rfl (by omega)) (Ev.congr (fun k => if_pos rfl) ?_))
  refine Ev.bind (meet_ev a b (by omega) (by omega)) (Ev.bind (same_ev_t rfl (by omega)) (Ev.congr (fun k => if_pos rfl) ?_))
  refine Ev.bind (less_ev a b (by omega) (by omega)) (Ev.bind (same_ev_t rfl (by omega)) (Ev.congr (fun k => if_pos rfl) ?_))
  refine Ev.bind (has_ev a x (by omega)) (Ev.congr (fun k => if_pos (by simp)) ?_)
  refine Ev.bind (within_ev a b (by omega) (by omega)) ?_
  simpa using hj
end Go.Proofs.Ytpidbaaojgdpmaa.SemM
namespace Go.Proofs.Ytpidbaaojgdpmaa
theorem Pure.SetMixes : PM.SetMixes.Pure := by
  intro l0 l1 a2 _ _ _ _ _ hb
  have hs : ∀ l : List Int, (l.map fun _ => (1 : Nat)).sum = l.length := fun l => by induction l <;> simp_all <;> omega
  have h0 := hs l0
  have h1 := hs l1
  exact (SemM.mixes_ev l0 l1 a2 (by omega) (by omega)).rounds
end Go.Proofs.Ytpidbaaojgdpmaa
