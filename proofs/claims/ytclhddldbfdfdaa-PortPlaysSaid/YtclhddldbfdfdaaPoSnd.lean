/- What the reference's Send comes to. -/
import Derived.Test.YtclhddldbfdfdaaPoRt
namespace Go.Proofs.Ytclhddldbfdfdaa.PoW
open Go.RowKit Go.Proofs.YtclhddldbfdfdaaW.PrintWords Go.Proofs.YtclhddldbfdfdaaW.PrintMore Go.Proofs.YtclhddldbfdfdaaW.PrintLast Go.Proofs.Ytclhddldbfdfdaa.LabF Go.Proofs.Ytclhddldbfdfdaa.SetF Go.Proofs.Ytclhddldbfdfdaa.Ppt
set_option linter.unusedVariables false
set_option linter.unusedSimpArgs false
def toM (m : RM) : Msg := (m.f0, m.f1)
def qL (q : List (List RM)) : List (List Msg) := q.map (List.map toM)
theorem qL_len (q : List (List RM)) : (qL q).length = q.length := by simp [qL]
theorem qL_getD (q : List (List RM)) (u : Nat) : (qL q).getD u [] = (q.getD u []).map toM := by
  simp only [qL, List.getD_eq_getElem?_getD, List.getElem?_map]
  cases q[u]? <;> rfl
theorem qL_set (q : List (List RM)) (u : Nat) (l : List RM) : qL (q.set u l) = (qL q).set u (l.map toM) := by simp [qL, List.map_set]
def pushQ (q : List (List RM)) (room u : Nat) (m : RM) : List (List RM) := q.set u (if (q.getD u []).length < room then q.getD u [] ++ [m] else q.getD u [])
theorem pushQ_L (q : List (List RM)) (room u : Nat) (m : RM) : qL (pushQ q room u m) = pushL (qL q) room u (toM m) := by
  unfold pushQ pushL
  rw [qL_set, qL_getD, List.length_map]
  split
  · rw [List.map_append]; rfl
  · rfl
theorem pushQ_full {q : List (List RM)} {room u : Nat} {m : RM} (h : ¬ (q.getD u []).length < room) (hu : u < q.length) : pushQ q room u m = q := by
  unfold pushQ
  rw [if_neg h, List.getD_eq_getElem?_getD, List.getElem?_eq_getElem hu]
  exact List.set_getElem_self hu
theorem lack_kept2 (S : List Int) (tw : Int) : lackL S tw = keptL S [2 * tw + 1] false := rises_ext (lacks_rises _ _ _ _) (keptL_rises _ _ _) fun x => by
  unfold lackL
  rw [mem_lacks, mem_less]
  simp
theorem with_now {q : List (List RM)} {room tw : Int} {l : List RM} (hq : q.length ≤ 16) (h : 0 ≤ tw ∧ tw < (q.length : Int)) : cloisterref16_with.f room q tw l = some (room, q.set tw.toNat l) := by
  unfold cloisterref16_with.f
  rw [if_pos (by simp; omega)]
  simp only [Option.bind_some, List.nil_append]
  rw [if_pos h.1, if_pos h.2]
theorem j0_arg (k : Nat) (tw : Int) (text : ByteArray) (op : Bool) (room : Int) (q : List (List RM)) (who : Int) (S I own : List Int) : cloisterref16_Send.j0 (k + 1) tw text op true room q who S I own = some (room, q, [], 1) := by
  simp only [cloisterref16_Send.j0, if_true]
theorem j1_no (k : Nat) (tw : Int) (text : ByteArray) (t : List Int) (room : Int) (q : List (List RM)) (who : Int) (S I own : List Int) : cloisterref16_Send.j1 (k + 1) tw text t true room q who S I own = some (room, q, [], 0) := by
  simp only [cloisterref16_Send.j1, if_true]
theorem j1_yes (k : Nat) (u : Nat) (text : ByteArray) (t : List Int) (room : Nat) (hr : room ≤ 64) (q : List (List RM)) (hq : q.length ≤ 16) (hu : u < q.length) (who : Int) (S I own : List Int) :
    cloisterref16_Send.j1 (k + 1) (u : Int) text t false (room : Int) q who S I own = some ((room : Int), pushQ q room u ⟨who, text⟩, t, 0) := by
  have e1 : rd_L3 q (u : Int) = q.getD u [] := by unfold rd_L3; rw [Int.toNat_natCast]
  simp only [cloisterref16_Send.j1, Bool.false_eq_true, if_false]
  rw [if_pos (by omega), if_pos (by omega), e1]
  by_cases h : (q.getD u []).length < room
  · rw [if_pos (by omega), if_pos (show ([] : List RM).length + (q.getD u []).length < 5864062014805 by simp only [List.length_nil]; omega)]
    simp only [Option.bind_some, List.nil_append]
    rw [if_pos (show (q.getD u []).length < 5864062014805 by omega), with_now hq (by omega)]
    simp only [Option.bind_some, Int.toNat_natCast]
    unfold pushQ
    rw [if_pos h]
  · rw [if_neg (by omega), pushQ_full h hu]
def rsendL (q : List (List RM)) (room : Nat) (who : Int) (S I own : List Int) (tw : Int) (text : ByteArray) (op : Bool) : List Int × Int × List (List RM) :=
  if ¬ ((0 ≤ who ∧ who < (q.length : Int)) ∧ (0 ≤ tw ∧ tw < (q.length : Int))) then ([], 1, q)
  else if ¬ Cats own then ([], 1, q)
  else if ¬ May S I then ([], 20, q)
  else if 1024 < text.size then ([], 4, q)
  else if ¬ Within (lackL S tw) (if op then own else []) then ([], 0, q)
  else (lackL S tw, 0, pushQ q room tw.toNat ⟨who, text⟩)
theorem rsend_same (q : List (List RM)) (room : Nat) (who : Int) (S I own : List Int) (tw : Int) (text : ByteArray) (op : Bool) : sendL (qL q) room who S I own tw text op = ((rsendL q room who S I own tw text op).1, (rsendL q room who S I own tw text op).2.1, qL (rsendL q room who S I own tw text op).2.2) := by
  unfold sendL rsendL
  rw [qL_len]
  split
  · rfl
  · split
    · rfl
    · split
      · rfl
      · split
        · rfl
        · by_cases h : Within (lackL S tw) (if op = true then own else [])
          · rw [if_neg (not_not_intro h), if_neg (not_not_intro h), pushQ_L]; rfl
          · rw [if_pos h, if_pos h]
theorem rsend_len (q : List (List RM)) (room : Nat) (who : Int) (S I own : List Int) (tw : Int) (text : ByteArray) (op : Bool) : (rsendL q room who S I own tw text op).2.2.length = q.length := by
  unfold rsendL pushQ
  repeat' split
  all_goals first | rfl | exact List.length_set
theorem rsend_ev (q : List (List RM)) (room : Nat) (who : Int) (S I own : List Int) (tw : Int) (text : ByteArray) (op : Bool) (hq : q.length ≤ 16) (hr : room ≤ 64) (ho : own.length ≤ 17592186044415) (hS : S.length ≤ 17592186044415) :
    Ev (fun k => cloisterref16_Send.f k (room : Int) q who S I own tw text op) ((room : Int), (rsendL q room who S I own tw text op).2.2, (rsendL q room who S I own tw text op).1, (rsendL q room who S I own tw text op).2.1) := by
  unfold rsendL
  by_cases h0 : (0 ≤ who ∧ who < (q.length : Int)) ∧ (0 ≤ tw ∧ tw < (q.length : Int))
  · rw [if_neg (not_not_intro h0)]
    have e : ∀ k, cloisterref16_Send.f k (room : Int) q who S I own tw text op = ((cloisterref02_Cats.f k own).bind fun t => cloisterref16_Send.j0 k tw text op (!t) (room : Int) q who S I own) := fun k => by
      unfold cloisterref16_Send.f
      rw [if_neg (by omega), if_neg (by omega), if_neg (by omega), if_neg (by omega)]
    refine Ev.congr e (Ev.bind (Sempt.rcats_ev own ho) ?_)
    by_cases h1 : Cats own
    · rw [if_neg (not_not_intro h1), decide_eq_true h1]
      refine Ev.step (f := fun k => (cloisterref02_May.f k S I).bind fun t187 => (if t187 = true then (if (text.size : Int) > 1024 then (some ((room : Int), q, ([] : List Int), (4 : Int))) else ((cloisterref16_Lacks.f k who S I own tw).bind fun t188 => (if (t188.length : Int) > 0 then (if op = true then ((Pbase.cloisterref01_Within.f k t188 own).bind fun t191 => (cloisterref16_Send.j1 k tw text t188 (!t191) (room : Int) q who S I own)) else (cloisterref16_Send.j1 k tw text t188 true (room : Int) q who S I own)) else (cloisterref16_Send.j1 k tw text t188 false (room : Int) q who S I own)))) else (some ((room : Int), q, ([] : List Int), (20 : Int))))) (fun k => by simp only [cloisterref16_Send.j0, Bool.not_true, Bool.false_eq_true, if_false]) ?_
      refine Ev.bind (Sempt.may_ev S I) ?_
      by_cases h2 : May S I
      · rw [if_neg (not_not_intro h2), decide_eq_true h2]
        simp only [if_true]
        by_cases h3 : 1024 < text.size
        · rw [if_pos h3]
          exact Ev.congr (fun k => by rw [if_pos (by omega)]) (Ev.now _)
        · rw [if_neg h3]
          refine Ev.congr (f := fun k => ((cloisterref16_Lacks.f k who S I own tw).bind fun t188 => (if (t188.length : Int) > 0 then (if op = true then ((Pbase.cloisterref01_Within.f k t188 own).bind fun t191 => (cloisterref16_Send.j1 k tw text t188 (!t191) (room : Int) q who S I own)) else (cloisterref16_Send.j1 k tw text t188 true (room : Int) q who S I own)) else (cloisterref16_Send.j1 k tw text t188 false (room : Int) q who S I own)))) (fun k => by rw [if_neg (by omega)]) ?_
          have hl : Ev (fun k => cloisterref16_Lacks.f k who S I own tw) (lackL S tw) := by
            rw [lack_kept2]
            have e1 : wrap64 (wrap64 (2 * tw) + 1) = 2 * tw + 1 := by unfold wrap64; omega
            have := Sempt.less_ev S [2 * tw + 1] hS (by simp)
            unfold cloisterref16_Lacks.f
            rw [e1]
            exact this
          have hkl : (lackL S tw).length ≤ 17592186044415 := by rw [lack_kept2]; have := kept_len S [2 * tw + 1] false; omega
          refine Ev.bind hl ?_
          obtain ⟨u, rfl⟩ := Int.eq_ofNat_of_zero_le h0.2.1
          rw [Int.toNat_natCast]
          by_cases h4 : (lackL S (u : Int)).length = 0
          · have h5 : lackL S (u : Int) = [] := List.eq_nil_of_length_eq_zero h4
            rw [if_neg (not_not_intro (show Within (lackL S (u : Int)) _ from by rw [h5]; exact fun x hx => by cases hx))]
            refine Ev.congr (fun k => by rw [if_neg (by omega)]) (Ev.step (f := fun _ => _) (fun k => j1_yes k u text _ room hr q hq (by omega) who S I own) (Ev.now _))
          · refine Ev.congr (f := fun k => (if op = true then ((Pbase.cloisterref01_Within.f k (lackL S (u : Int)) own).bind fun t191 => (cloisterref16_Send.j1 k (u : Int) text (lackL S (u : Int)) (!t191) (room : Int) q who S I own)) else (cloisterref16_Send.j1 k (u : Int) text (lackL S (u : Int)) true (room : Int) q who S I own))) (fun k => by rw [if_pos (by omega)]) ?_
            cases op with
            | false =>
              rw [if_pos (show ¬ Within (lackL S (u : Int)) (if false = true then own else []) from fun h => by
                have h6 : lackL S (u : Int) = [] := List.eq_nil_iff_forall_not_mem.2 (fun x hx => by have := h x hx; simp at this)
                rw [h6] at h4; exact h4 rfl)]
              exact Ev.congr (fun k => by rw [if_neg (by decide)]) (Ev.step (f := fun _ => _) (fun k => j1_no k (u : Int) text _ (room : Int) q who S I own) (Ev.now _))
            | true =>
              refine Ev.congr (fun k => by rw [if_pos rfl]) (Ev.bind (Sempt.within_ev _ own hkl ho) ?_)
              by_cases h7 : Within (lackL S (u : Int)) own
              · rw [if_neg (not_not_intro (show Within (lackL S (u : Int)) (if true = true then own else []) from h7)), show (((keptL (lackL S (u : Int)) own false).length : Int) == 0) = true from by rw [(within_less _ _).2 h7]; rfl]
                exact Ev.step (f := fun _ => _) (fun k => j1_yes k u text _ room hr q hq (by omega) who S I own) (Ev.now _)
              · rw [if_pos (show ¬ Within (lackL S (u : Int)) (if true = true then own else []) from h7), show (((keptL (lackL S (u : Int)) own false).length : Int) == 0) = false from beq_false_of_ne (fun h => h7 ((within_less _ _).1 (by omega)))]
                exact Ev.step (f := fun _ => _) (fun k => j1_no k (u : Int) text _ (room : Int) q who S I own) (Ev.now _)
      · rw [if_pos h2, decide_eq_false h2]
        exact Ev.congr (fun k => by rw [if_neg (by decide)]) (Ev.now _)
    · rw [if_pos h1, decide_eq_false h1]
      exact Ev.step (f := fun _ => _) (fun k => j0_arg k tw text op (room : Int) q who S I own) (Ev.now _)
  · rw [if_pos h0]
    have e : ∀ k, cloisterref16_Send.f k (room : Int) q who S I own tw text op = cloisterref16_Send.j0 k tw text op true (room : Int) q who S I own := fun k => by
      unfold cloisterref16_Send.f
      by_cases h1 : who < 0
      · rw [if_pos h1]
      · rw [if_neg h1]
        by_cases h2 : who ≥ (q.length : Int)
        · rw [if_pos h2]
        · rw [if_neg h2]
          by_cases h3 : tw < 0
          · rw [if_pos h3]
          · rw [if_neg h3, if_pos (by omega)]
    exact Ev.congr e (Ev.step (f := fun _ => _) (fun k => j0_arg k tw text op (room : Int) q who S I own) (Ev.now _))
theorem rtake_same (q : List (List RM)) (who : Int) : takeL (qL q) who = (toM (rtakeL q who).1, (rtakeL q who).2.1, qL (rtakeL q who).2.2) := by
  unfold takeL rtakeL
  rw [qL_len]
  split
  · rw [qL_getD]
    cases q.getD who.toNat [] with
    | nil => rfl
    | cons x l => show _ = (toM x, true, qL (q.set who.toNat l)); rw [qL_set]; rfl
  · rfl
theorem rtake_len (q : List (List RM)) (who : Int) : (rtakeL q who).2.2.length = q.length := by
  unfold rtakeL
  split
  · split
    · rfl
    · exact List.length_set
  · rfl
end Go.Proofs.Ytclhddldbfdfdaa.PoW
