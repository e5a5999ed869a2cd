/- The law SetWords, walked by hand. -/
import Derived.Test.YtpidbaaojgdpmaaSetHandsS
import Derived.Test.YtpidbaaojgdpmaaSetAwake
import Derived.Test.YtpidbaaojgdpmaaPWx1
import Derived.WalkLawsBesides
import Derived.IntWalk
namespace Go.Proofs.Ytpidbaaojgdpmaa.SetWS
open Go.RowKit Go.Sort Go.Proofs.YtpidbaaojgdpmaaW.PrintWords Go.Proofs.YtpidbaaojgdpmaaW.PrintMore Go.Proofs.Ytpidbaaojgdpmaa.SetF Go.Proofs.Ytpidbaaojgdpmaa.SetFS Go.Proofs.Ytpidbaaojgdpmaa.OwnPut
set_option linter.unusedVariables false
set_option linter.unusedSimpArgs false
structure RowsE (w0 W : World) (rs : List (Option Addr × Nat × List ByteArray)) : Prop where
  below : Below w0.heap.size w0 W
  rows : ∀ r ∈ rs, r.2.2.length ≤ r.2.1 ∧ Kd.C Kd.string W r.1 r.2.2.length r.2.2
theorem RowsE.step {w0 W W' : World} {rs : List (Option Addr × Nat × List ByteArray)} (h : RowsE w0 W rs) (hb : Below W.heap.size W W') : RowsE w0 W' rs :=
  ⟨below_step h.below hb, fun r hr => ⟨(h.rows r hr).1, Kd.C_below (h.rows r hr).2 hb⟩⟩
theorem RowsE.drewN {w0 W : World} {rs : List (Option Addr × Nat × List ByteArray)} (h : RowsE w0 W rs) (n : Nat) : RowsE w0 (W.drewN n) rs := h.step ⟨rfl, rfl, rfl, Nat.le_refl _, fun _ _ => rfl⟩
theorem RowsE.add {w0 W : World} {rs : List (Option Addr × Nat × List ByteArray)} (h : RowsE w0 W rs) {A : Option Addr} {c : Nat} {l : List ByteArray} (hc : l.length ≤ c) (hC : Kd.C Kd.string W A l.length l) : RowsE w0 W ((A, c, l) :: rs) :=
  ⟨h.below, fun r hr => (List.mem_cons.1 hr).elim (fun e => e ▸ ⟨hc, hC⟩) (h.rows r)⟩
def EPost (w0 : World) (rs : List (Option Addr × Nat × List ByteArray)) (l : List ByteArray) (e : Ending) (w' : World) : Prop := ∃ A c, e = .returned (.slice A l.length c) ∧ RowsE w0 w' ((A, c, l) :: rs)
theorem EPost.of {w0 W : World} {rs : List (Option Addr × Nat × List ByteArray)} (h : RowsE w0 W rs) {l : List ByteArray} {e : Ending} {w' : World} (hp : SlicePost W l e w') : EPost w0 rs l e w' := by
  obtain ⟨v, rfl, hR, hb⟩ := hp
  obtain ⟨A, c, rfl, hc, hC⟩ := Kd.R_reads hR
  exact ⟨A, c, rfl, (h.step hb).add hc hC⟩
set_option maxHeartbeats 4000000 in
set_option maxRecDepth 100000 in
theorem has_calls (A0 : Option Addr) (c0 : Nat) (l0 : List ByteArray) (x : ByteArray) (w : World) (hr0 : Kd.C Kd.string w A0 l0.length l0) (hb : l0.length ≤ 1099511627776) :
    Calls Try.prog 26 #[.slice A0 l0.length c0, .string x] w fun e w' => e = .returned (.bool (decide (x ∈ l0))) ∧ w' = w := by
  have HC := Aside0.mk (contains_calls A0 c0 l0 x w hr0 (by omega))
  clear hr0 hb
  generalize decide (x ∈ l0) = d at *
  go_enter Try.func26, Try.ntmps26
  go_wp2_with (go_at_call 46; refine HC.out.mono ?_; rintro e w1 ⟨rfl, rfl⟩)
  all_goals go_ret
  all_goals exact ⟨rfl, rfl⟩
section
variable {w0 W : World} {rs : List (Option Addr × Nat × List ByteArray)} {A0 A1 : Option Addr} {c0 c1 : Nat} {l0 l1 : List ByteArray}
theorem joinE (h : RowsE w0 W rs) (h0 : (A0, c0, l0) ∈ rs) (h1 : (A1, c1, l1) ∈ rs) (hb : l0.length + l1.length ≤ 1099511627776) : Calls Try.prog 24 #[.slice A0 l0.length c0, .slice A1 l1.length c1] W (EPost w0 rs (joinB l0 l1)) :=
  (join_calls A0 c0 l0 A1 c1 l1 W (h.rows _ h0).2 (h.rows _ h1).2 (by omega)).mono fun _ _ => EPost.of h
theorem meetE (h : RowsE w0 W rs) (h0 : (A0, c0, l0) ∈ rs) (h1 : (A1, c1, l1) ∈ rs) (hb : l0.length + l1.length ≤ 1099511627776) : Calls Try.prog 25 #[.slice A0 l0.length c0, .slice A1 l1.length c1] W (EPost w0 rs (keptB l0 l1 true)) :=
  (meet_calls 0 A0 c0 l0 A1 c1 l1 _ W (h.rows _ h0).2 (h.rows _ h0).1 (h.rows _ h1).2 (h.rows _ h1).1 (if_pos ⟨by omega, by omega⟩)).mono fun _ _ => EPost.of h
theorem lessE (h : RowsE w0 W rs) (h0 : (A0, c0, l0) ∈ rs) (h1 : (A1, c1, l1) ∈ rs) (hb : l0.length + l1.length ≤ 1099511627776) : Calls Try.prog 29 #[.slice A0 l0.length c0, .slice A1 l1.length c1] W (EPost w0 rs (keptB l0 l1 false)) :=
  (less_calls 0 A0 c0 l0 A1 c1 l1 _ W (h.rows _ h0).2 (h.rows _ h0).1 (h.rows _ h1).2 (h.rows _ h1).1 (if_pos ⟨by omega, by omega⟩)).mono fun _ _ => EPost.of h
theorem hasE (h : RowsE w0 W rs) (h0 : (A0, c0, l0) ∈ rs) (hb : l0.length ≤ 1099511627776) (x : ByteArray) (n : Nat) : Calls Try.prog 26 #[.slice A0 l0.length c0, .string x] (W.drewN n) fun e w' => e = .returned (.bool (decide (x ∈ l0))) ∧ w' = W.drewN n :=
  has_calls A0 c0 l0 x (W.drewN n) ((h.drewN n).rows _ h0).2 hb
theorem awakeE (h : RowsE w0 W rs) : Calls Try.prog 13 #[] W fun e w' => e = .returned (.bool true) ∧ RowsE w0 w' rs :=
  (SetW.awake_calls W).mono fun _ _ ⟨he, hb⟩ => ⟨he, h.step hb⟩
end
set_option maxHeartbeats 4000000 in
set_option maxRecDepth 100000 in
theorem within_calls (A0 : Option Addr) (c0 : Nat) (l0 : List ByteArray) (A1 : Option Addr) (c1 : Nat) (l1 : List ByteArray) (w w0 : World) (rs : List (Option Addr × Nat × List ByteArray)) (h : RowsE w0 w rs) (h0 : (A0, c0, l0) ∈ rs) (h1 : (A1, c1, l1) ∈ rs) (hb : l0.length + l1.length ≤ 1099511627776) (hw : ∀ x ∈ l0, x ∈ l1) :
    Calls Try.prog 27 #[.slice A0 l0.length c0, .slice A1 l1.length c1] w fun e w' => e = .returned (.bool true) ∧ RowsE w0 w' rs := by
  have HK := Aside0.mk (lessE h h0 h1 hb)
  have e0 : keptB l0 l1 false = [] := List.eq_nil_iff_forall_not_mem.2 fun x hx => (mem_lessB.1 hx).2 (hw x (mem_lessB.1 hx).1)
  rw [e0] at HK
  clear h h0 h1 hb hw e0
  go_enter Try.func27, Try.ntmps27
  go_wp2_with (go_at_call 29; refine HK.out.mono ?_; rintro e w1 ⟨A, c, rfl, hE⟩; have HE := Aside0.mk hE; clear hE)
  go_ret
  exact ⟨rfl, HE.out.below, fun r hr => HE.out.rows r (List.mem_cons_of_mem _ hr)⟩
theorem texts_l0 (x y : List ByteArray) (h : x.length = y.length) (hs : x.length ≤ 4611686018427387904) (i k : Nat) (hk : i + k = x.length) (e : x = y) : PW.cloisterref01_Texts.l0 (k + 1) x y (i : Int) = some true := by
  subst e
  induction k generalizing i with
  | zero =>
    unfold PW.cloisterref01_Texts.l0
    rw [if_neg (by omega)]
  | succ k ih =>
    unfold PW.cloisterref01_Texts.l0
    have hw : wrap64 ((i : Int) + 1) = ((i + 1 : Nat) : Int) := by unfold wrap64; omega
    rw [if_pos (by omega), if_pos (by omega), if_pos (by omega), if_pos rfl, hw, ih (i + 1) (by omega)]
theorem textsT {w0 W : World} {rs : List (Option Addr × Nat × List ByteArray)} {A0 A1 : Option Addr} {c0 c1 : Nat} {l0 l1 : List ByteArray} (h : RowsE w0 W rs) (h0 : (A0, c0, l0) ∈ rs) (h1 : (A1, c1, l1) ∈ rs) (hb : l0.length ≤ 1099511627776) (e : l0 = l1) :
    Calls Try.prog 28 #[.slice A0 l0.length c0, .slice A1 l1.length c1] W fun e w' => e = .returned (.bool true) ∧ RowsE w0 w' rs :=
  (PW.cloisterref01_Texts.calls (l0.length + 1) A0 c0 l0 A1 c1 l1 true W (h.rows _ h0).2 (h.rows _ h0).1 (h.rows _ h1).2 (h.rows _ h1).1 (by
    unfold PW.cloisterref01_Texts.f
    rw [if_pos (by rw [e])]
    exact texts_l0 l0 l1 (by rw [e]) (by omega) 0 l0.length (by omega) e)).mono fun e w' ⟨he, hd⟩ => ⟨he, h.step hd.below⟩
theorem less_words (a b : List ByteArray) : keptB a b false = keptB (joinB a b) b false := risesB_ext (keptB_rises _ _ _) (keptB_rises _ _ _) fun x => by
  rw [mem_lessB, mem_lessB, mem_joinB]
  constructor
  · rintro ⟨h1, h2⟩; exact ⟨.inl h1, h2⟩
  · rintro ⟨h1 | h1, h2⟩
    · exact ⟨h1, h2⟩
    · exact absurd h1 h2
theorem cell_of {w0 W : World} {rs : List (Option Addr × Nat × List ByteArray)} {A : Option Addr} {c : Nat} {l : List ByteArray} (h : RowsE w0 W rs) (h0 : (A, c, l) ∈ rs) (hp : 0 < l.length) : ∃ b o, A = some ⟨b, o, none⟩ ∧ ∀ j, j < l.length → W.cell? ⟨b, o + j, none⟩ = some (.string (l.getD j ByteArray.empty)) := by
  obtain ⟨b, o, e, _, hc⟩ := texts_at (h.rows _ h0).2 hp
  exact ⟨b, o, e, hc⟩
theorem rises_at {l : List ByteArray} (h : RisesB l) (k : Nat) (hk : k + 1 < l.length) : Op.bytesLess (l.getD k ByteArray.empty).toList (l.getD (k + 1) ByteArray.empty).toList = true := by
  rw [bytesLess_eq, ByteArray.toList_eq, ByteArray.toList_eq, List.getD_eq_getElem?_getD, List.getD_eq_getElem?_getD, List.getElem?_eq_getElem (by omega), List.getElem?_eq_getElem hk]
  exact decide_eq_true (List.pairwise_iff_getElem.1 h k (k + 1) (by omega) hk (by omega))
theorem getD_mem {l : List ByteArray} {k : Nat} (hk : k < l.length) : l.getD k ByteArray.empty ∈ l := by
  rw [List.getD_eq_getElem?_getD, List.getElem?_eq_getElem hk]
  exact List.getElem_mem hk
set_option maxHeartbeats 4000000 in
set_option maxRecDepth 100000 in
theorem setWords_calls (A0 : Option Addr) (c0 : Nat) (a : List ByteArray) (A1 : Option Addr) (c1 : Nat) (b : List ByteArray) (w : World) (hr0 : Kd.C Kd.string w A0 a.length a) (hc0 : a.length ≤ c0) (hr1 : Kd.C Kd.string w A1 b.length b) (hc1 : b.length ≤ c1) (hb0 : a.length ≤ 1048576) (hb1 : b.length ≤ 1048576) :
    Calls Try.prog 6 #[.slice A0 a.length c0, .slice A1 b.length c1] w fun e w' => e = .returned (.bool true) ∧ Below w.heap.size w w' := by
  have HL := Aside0.mk (And.intro hb0 (And.intro hb1 (And.intro (joinB_len a b) (And.intro (keptB_len a b true) (And.intro (keptB_len a b false) (keptB_len (joinB a b) b false))))))
  have HE := Aside0.mk (((RowsE.mk (Below.refl w.heap.size w) (by simp) : RowsE w w []).add hc1 hr1).add hc0 hr0)
  have j63 : ((joinB a b).length : Int) ≤ 9223372036854775807 := by have := HL.out; omega
  have a63 : (a.length : Int) ≤ 9223372036854775807 := by have := HL.out; omega
  clear hr0 hc0 hr1 hc1 hb0 hb1
  go_enter Try.func6, Try.ntmps6
  go_wp2_with (first
    | (go_at_call 24; (with_reducible refine (joinE HE.out (by repeat (first | exact List.mem_cons_self | apply List.mem_cons_of_mem)) (by repeat (first | exact List.mem_cons_self | apply List.mem_cons_of_mem)) (by have := HL.out; omega)).mono ?_); rintro e w' ⟨Aj, cj, rfl, hE⟩; clear HE; have HE := Aside0.mk hE; clear hE)
    | (go_at_call 25; (with_reducible refine (meetE HE.out (by repeat (first | exact List.mem_cons_self | apply List.mem_cons_of_mem)) (by repeat (first | exact List.mem_cons_self | apply List.mem_cons_of_mem)) (by have := HL.out; omega)).mono ?_); rintro e W ⟨Am, cm, rfl, hE⟩; clear HE; have HE := Aside0.mk hE; clear hE))
  go_loopw [7] (fun i wr => ∃ k : Nat, k ≤ (joinB a b).length ∧ i = .int .i64 ((k : Int) + 1) ∧ Aside0 (RowsE w wr [(Am, cm, keptB a b true), (Aj, cj, joinB a b), (A0, c0, a), (A1, c1, b)])) (fun i _ => (joinB a b).length - (intOf i).toNat)
  case atStart => exact ⟨0, Nat.zero_le _, rfl, HE⟩
  case round =>
    clear HE
    obtain ⟨k, hk, rfl, HE⟩ := hrel
    by_cases hlt : k + 1 < (joinB a b).length
    · have hl := rises_at (joinB_rises a b) k hlt
      obtain ⟨bj, oj, ej, hc⟩ := cell_of HE.out (show (Aj, cj, joinB a b) ∈ _ from (by repeat (first | exact List.mem_cons_self | apply List.mem_cons_of_mem))) (by omega)
      subst ej
      have hc1 := hc k (by omega)
      have hc2 := hc (k + 1) hlt
      generalize (joinB a b).getD k ByteArray.empty = x at *
      generalize (joinB a b).getD (k + 1) ByteArray.empty = y at *
      have i1 : ((k : Int) + 1 < ((joinB a b).length : Int)) := by omega
      have i2 : ((k : Int) < ((joinB a b).length : Int)) := by omega
      have k1 : IntKind.i64.wrap (k : Int) = (k : Int) := IntWalk.i64_in _ (by omega)
      clear hc
      go_wp2
      go_quiet (fail)
      go_wp2
      exact ⟨⟨k + 1, by omega, by go_num, ⟨HE.out.drewN _⟩⟩, by simp [intOf]; omega⟩
    · have i1 : ¬ ((k : Int) + 1 < ((joinB a b).length : Int)) := by omega
      clear hlt
      go_wp2
      go_loopw [8] (fun i wr => ∃ k : Nat, k ≤ (joinB a b).length ∧ i = .int .i64 (k : Int) ∧ Aside0 (RowsE w wr [(Am, cm, keptB a b true), (Aj, cj, joinB a b), (A0, c0, a), (A1, c1, b)])) (fun i _ => (joinB a b).length - (intOf i).toNat)
      case atStart => exact ⟨0, Nat.zero_le _, rfl, HE⟩
      case round =>
        clear HE i1 hk
        obtain ⟨k, hk, rfl, HE⟩ := hrel
        by_cases hlt : k < (joinB a b).length
        · obtain ⟨bj, oj, ej, hc⟩ := cell_of HE.out (show (Aj, cj, joinB a b) ∈ _ from (by repeat (first | exact List.mem_cons_self | apply List.mem_cons_of_mem))) (by omega)
          subst ej
          have hc1 := hc k (by omega)
          have hm : (joinB a b).getD k ByteArray.empty ∈ joinB a b := getD_mem hlt
          generalize (joinB a b).getD k ByteArray.empty = x at *
          have i2 : ((k : Int) < ((joinB a b).length : Int)) := by omega
          have HA := Aside0.mk (fun n => hasE HE.out (show (A0, c0, a) ∈ _ from (by repeat (first | exact List.mem_cons_self | apply List.mem_cons_of_mem))) (by have := HL.out; omega) x n)
          have HB := Aside0.mk (fun n => hasE HE.out (show (A1, c1, b) ∈ _ from (by repeat (first | exact List.mem_cons_self | apply List.mem_cons_of_mem))) (by have := HL.out; omega) x n)
          have HM := Aside0.mk (fun n => hasE HE.out (show (Am, cm, keptB a b true) ∈ _ from (by repeat (first | exact List.mem_cons_self | apply List.mem_cons_of_mem))) (by have := HL.out; omega) x n)
          clear hc
          by_cases xa : x ∈ a
          · by_cases xb : x ∈ b
            · have xm : x ∈ keptB a b true := mem_meetB.2 ⟨xa, xb⟩
              rw [decide_eq_true xa] at HA
              rw [decide_eq_true xb] at HB
              rw [decide_eq_true xm] at HM
              clear xa xb xm hm
              go_wp2
              go_quiet ((first | (go_at_call 26; exact Calls.quiet_of_same (HA.out _)) | (go_at_call 26; exact Calls.quiet_of_same (HB.out _)) | (go_at_call 26; exact Calls.quiet_of_same (HM.out _))))
              go_wp2
              exact ⟨⟨k + 1, by omega, by go_num, ⟨HE.out.drewN _⟩⟩, by simp [intOf]; omega⟩
            · skip
              have xm : x ∉ keptB a b true := fun h => xb (mem_meetB.1 h).2
              rw [decide_eq_true xa] at HA
              rw [decide_eq_false xb] at HB
              rw [decide_eq_false xm] at HM
              clear xa xb xm hm
              go_wp2
              go_quiet ((first | (go_at_call 26; exact Calls.quiet_of_same (HA.out _)) | (go_at_call 26; exact Calls.quiet_of_same (HB.out _)) | (go_at_call 26; exact Calls.quiet_of_same (HM.out _))))
              go_wp2
              exact ⟨⟨k + 1, by omega, by go_num, ⟨HE.out.drewN _⟩⟩, by simp [intOf]; omega⟩
          · have xb : x ∈ b := (mem_joinB.1 hm).resolve_left xa
            have xm : x ∉ keptB a b true := fun h => xa (mem_meetB.1 h).1
            rw [decide_eq_false xa] at HA
            rw [decide_eq_true xb] at HB
            rw [decide_eq_false xm] at HM
            clear xa xb xm hm
            go_wp2
            go_quiet ((first | (go_at_call 26; exact Calls.quiet_of_same (HA.out _)) | (go_at_call 26; exact Calls.quiet_of_same (HB.out _)) | (go_at_call 26; exact Calls.quiet_of_same (HM.out _))))
            go_wp2
            exact ⟨⟨k + 1, by omega, by go_num, ⟨HE.out.drewN _⟩⟩, by simp [intOf]; omega⟩
        · have i1 : ¬ ((k : Int) < ((joinB a b).length : Int)) := by omega
          clear hlt
          go_wp2
          go_loopw [9] (fun i wr => ∃ k : Nat, k ≤ a.length ∧ i = .int .i64 (k : Int) ∧ Aside0 (RowsE w wr [(Am, cm, keptB a b true), (Aj, cj, joinB a b), (A0, c0, a), (A1, c1, b)])) (fun i _ => a.length - (intOf i).toNat)
          case atStart => exact ⟨0, Nat.zero_le _, rfl, HE⟩
          case round =>
            clear HE i1 hk
            obtain ⟨k, hk, rfl, HE⟩ := hrel
            by_cases hlt : k < a.length
            · obtain ⟨bj, oj, ej, hc⟩ := cell_of HE.out (show (A0, c0, a) ∈ _ from (by repeat (first | exact List.mem_cons_self | apply List.mem_cons_of_mem))) (by omega)
              subst ej
              have hc1 := hc k (by omega)
              have hm : a.getD k ByteArray.empty ∈ joinB a b := mem_joinB.2 (.inl (getD_mem hlt))
              generalize a.getD k ByteArray.empty = x at *
              have i2 : ((k : Int) < (a.length : Int)) := by omega
              have HJ := Aside0.mk (fun n => hasE HE.out (show (Aj, cj, joinB a b) ∈ _ from (by repeat (first | exact List.mem_cons_self | apply List.mem_cons_of_mem))) (by have := HL.out; omega) x n)
              rw [decide_eq_true hm] at HJ
              clear hc hm
              go_wp2_with (go_at_call 26; refine (HJ.out 0).mono ?_; rintro e w' ⟨rfl, rfl⟩)
              exact ⟨⟨k + 1, by omega, by go_num, ⟨HE.out.drewN _⟩⟩, by simp [intOf]; omega⟩
            · have i1 : ¬ ((k : Int) < (a.length : Int)) := by omega
              clear hlt
              go_wp2_with (first
                | (go_at_call 27; (with_reducible refine (within_calls _ _ _ _ _ _ _ _ _ HE.out (by repeat (first | exact List.mem_cons_self | apply List.mem_cons_of_mem)) (by repeat (first | exact List.mem_cons_self | apply List.mem_cons_of_mem)) (by have := HL.out; omega) (by intro x hx; first | exact (mem_meetB.1 hx).1 | exact mem_joinB.2 (.inl hx) | exact mem_joinB.2 (.inr hx))).mono ?_); rintro e w' ⟨rfl, hE⟩; clear HE; have HE := Aside0.mk hE; clear hE)
                | (go_at_call 29; (with_reducible refine (lessE HE.out (by repeat (first | exact List.mem_cons_self | apply List.mem_cons_of_mem)) (by repeat (first | exact List.mem_cons_self | apply List.mem_cons_of_mem)) (by have := HL.out; omega)).mono ?_); rintro e w' ⟨A, cp, rfl, hE⟩; clear HE; have HE := Aside0.mk hE; clear hE)
                | (go_at_call 28; (with_reducible refine (textsT HE.out (by repeat (first | exact List.mem_cons_self | apply List.mem_cons_of_mem)) (by repeat (first | exact List.mem_cons_self | apply List.mem_cons_of_mem)) (by have := HL.out; omega) (less_words a b)).mono ?_); rintro e w' ⟨rfl, hE⟩; clear HE; have HE := Aside0.mk hE; clear hE)
                | (go_at_call 13; (with_reducible refine (awakeE HE.out).mono ?_); rintro e w' ⟨rfl, hE⟩; clear HE; have HE := Aside0.mk hE; clear hE))
              go_ret
              exact ⟨rfl, HE.out.below⟩
end Go.Proofs.Ytpidbaaojgdpmaa.SetWS
