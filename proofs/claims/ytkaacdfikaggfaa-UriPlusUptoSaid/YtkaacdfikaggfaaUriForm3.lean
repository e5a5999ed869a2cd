/- uri.Form by hand. -/
import Derived.Test.YtkaacdfikaggfaaUriForm2
namespace Go.Proofs.Ytkaacdfikaggfaa.UriD
open Go.RowKit Go.Proofs.YtkaacdfikaggfaaW.PrintWords Go.Proofs.YtkaacdfikaggfaaW.PrintLast Go.Proofs.YtkaacdfikaggfaaW.PrintMore Go.Proofs.Ytkaacdfikaggfaa.Bs Go.Proofs.Ytkaacdfikaggfaa.UriF Go.Proofs.Ytkaacdfikaggfaa.Vars
set_option linter.unusedVariables false
set_option linter.unusedSimpArgs false

def formSt (s : ByteArray) : FSt := foldP formStep ([], 0, 0) (pcs 38 (bytesOf s) [] 0 0)
def formR (s : ByteArray) : FSt :=
  if (formSt s).2.1 ≠ 0 then ([], (formSt s).2) else if (formSt s).1.length > 32 then ([], 2, (formSt s).2.2) else ((formSt s).1, 0, 0)
theorem FEnv.start (w : World) : FEnv w (((w.alloc (.cells #[.slice none 0 0] 28)).alloc (.cells #[.int .i64 0] 22)).alloc (.cells #[.int .i64 0] 3)).heap.size ([], 0, 0) (((w.alloc (.cells #[.slice none 0 0] 28)).alloc (.cells #[.int .i64 0] 22)).alloc (.cells #[.int .i64 0] 3)) := by
  refine ⟨⟨.slice none 0 0, ?_, Kd.R_nil _ _ _ _ _⟩, ?_, ?_, below_alloc (below_alloc (below_alloc (Below.refl _ _) _) _) _⟩
  · unfold Var
    rw [Go.heap_alloc_old _ _ (by simp; omega), Go.heap_alloc_old _ _ (by simp)]
    exact Go.heap_alloc_new w _
  · unfold Var
    rw [Go.heap_alloc_old _ _ (by simp)]
    have := Go.heap_alloc_new (w.alloc (.cells #[.slice none 0 0] 28)) (.cells #[.int .i64 0] 22)
    simpa using this
  · unfold Var
    have := Go.heap_alloc_new ((w.alloc (.cells #[.slice none 0 0] 28)).alloc (.cells #[.int .i64 0] 22)) (.cells #[.int .i64 0] 3)
    simpa using this

def FormPost (w : World) (r : FSt) (e : Ending) (w' : World) : Prop := ∃ v0 : Value, e = .returned (.tuple #[v0, .int .i64 r.2.1, .int .i64 r.2.2]) ∧ Kd.R pk 52 w' w.heap.size (fun _ => True) v0 r.1 ∧ Below w.heap.size w w'
set_option maxHeartbeats 8000000 in
set_option maxRecDepth 100000 in
theorem form_calls (s : ByteArray) (hs : s.size ≤ 1099511627776) (w : World) :
    Calls Try.prog 13 #[.string s] w (FormPost w (formR s)) := by
  obtain ⟨st, hst⟩ : ∃ st, st = formSt s := ⟨_, rfl⟩
  have hfr : formR s = if st.2.1 ≠ 0 then ([], st.2) else if st.1.length > 32 then ([], 2, st.2.2) else (st.1, 0, 0) := by unfold formR; rw [hst]
  have hpc := formparts_calls w s hs _ (FEnv.start w)
  rw [show foldP formStep ([], 0, 0) (pcs 38 (bytesOf s) [] 0 0) = st from hst.symm] at hpc
  have hmf : ∀ (fn : Fn) (first cap : Array Value) (w : World), (Instr.makeFunc fn first cap).run Try.prog w = .ok (.func fn first cap) w := fun _ _ _ _ => rfl
  have HP := Aside0.mk hpc
  rw [hfr]
  clear hpc hst hfr hs
  obtain ⟨out, e, pl⟩ := st
  by_cases he : e = 0
  · subst he
    by_cases hl : out.length > 32
    · rw [if_neg (by simp), if_pos hl]
      have l1 : decide (32 < out.length) = true := decide_eq_true hl
      have l2 : decide (32 < (out.length : Int)) = true := decide_eq_true (by omega)
      clear hl
      go_enter Try.func13, Try.ntmps13
      go_wp2_with (go_at_call 26; refine HP.out.mono ?_; rintro e' w2 ⟨rfl, hE⟩; obtain ⟨v, hv, hr⟩ := hE.outs; obtain ⟨A1, c1, e1_⟩ := Kd.R_slice hr; subst e1_; have cG := hv.cell; have cE := hE.err.cell; have fE := hE.err.free; have cP := hE.plc.cell; have fP := hE.plc.free; have HE := Aside0.mk hE; have HR := Aside0.mk hr; clear hE hv hr)
      have HE3 := Aside0.mk (HE.out.setE 2)
      generalize w2.setCell ⟨w.heap.size + 1, 0, none⟩ (.int .i64 2) = w3 at HE3 ⊢
      clear cG cE fE cP fP HE HR
      refine start_ (n := 5) (S := fun w' => w'.cell? ⟨w.heap.size + 1, 0, none⟩ = some (.int .i64 2) ∧ w'.cell? ⟨w.heap.size + 1 + 1, 0, none⟩ = some (.int .i64 pl)) (ds := []) #[false, false, false, false, false] (by kernel_rfl) rfl rfl ⟨HE3.out.drew.err.cell, HE3.out.drew.plc.cell⟩ (fun hHeld => ?_)
      refine pure_ (i := 2) (N := some 2) (v := ?_) (a' := ?_) #[false, false, true, false, false] rfl rfl (by kernel_rfl) (fun _ _ _ h => h) (Or.inl ⟨by rfl, ?_⟩) ?_ ?_
      rotate_left
      · intro w'
        go_simp
        with_reducible rfl
      rotate_left
      · simp only [Act.put, List.setIfInBounds_toArray, List.set_cons_zero, List.set_cons_succ, i64_w, i32_w]
        rfl
      refine take_ (i := 0) (N := some 20) (v := ?_) (a' := ?_) #[true, false, true, false, false] rfl rfl (by kernel_rfl) (fun _ _ _ h => h) (Or.inl ⟨by rfl, ?_⟩) hHeld ?_ ?_
      rotate_left
      · rintro w' ⟨s0, s1⟩
        go_simp
        with_reducible rfl
      rotate_left
      · simp only [Act.put, List.setIfInBounds_toArray, List.set_cons_zero, List.set_cons_succ, i64_w, i32_w]
        rfl
      refine pure_ (i := 3) (N := some 3) (v := ?_) (a' := ?_) #[true, false, true, true, false] rfl rfl (by kernel_rfl) (fun _ _ _ h => h) (Or.inl ⟨by rfl, ?_⟩) ?_ ?_
      rotate_left
      · intro w'
        go_simp
        with_reducible rfl
      rotate_left
      · simp only [Act.put, List.setIfInBounds_toArray, List.set_cons_zero, List.set_cons_succ, i64_w, i32_w]
        rfl
      refine take_ (i := 1) (N := some 21) (v := ?_) (a' := ?_) #[true, true, true, true, false] rfl rfl (by kernel_rfl) (fun _ _ _ h => h) (Or.inl ⟨by rfl, ?_⟩) hHeld ?_ ?_
      rotate_left
      · rintro w' ⟨s0, s1⟩
        go_simp
        with_reducible rfl
      rotate_left
      · simp only [Act.put, List.setIfInBounds_toArray, List.set_cons_zero, List.set_cons_succ, i64_w, i32_w]
        rfl
      refine pure_ (i := 4) (N := some 4) (v := ?_) (a' := ?_) #[true, true, true, true, true] rfl rfl (by kernel_rfl) (fun _ _ _ h => h) (Or.inl ⟨by rfl, ?_⟩) ?_ ?_
      rotate_left
      · intro w'
        go_simp
        with_reducible rfl
      rotate_left
      · simp only [Act.put, List.setIfInBounds_toArray, List.set_cons_zero, List.set_cons_succ, i64_w, i32_w]
        rfl
      refine done_ (by kernel_rfl) ?_

      go_wp2
      go_ret3
      exact ⟨.slice none 0 0, rfl, Kd.R_nil _ _ _ _ _, HE3.out.drew.bel⟩
    · rw [if_neg (by simp), if_neg hl]
      have l1 : decide (32 < out.length) = false := decide_eq_false (by omega)
      have l2 : decide (32 < (out.length : Int)) = false := decide_eq_false (by omega)
      clear hl
      go_enter Try.func13, Try.ntmps13
      go_wp2_with (go_at_call 26; refine HP.out.mono ?_; rintro e' w2 ⟨rfl, hE⟩; obtain ⟨v, hv, hr⟩ := hE.outs; obtain ⟨A1, c1, e1_⟩ := Kd.R_slice hr; subst e1_; have cG := hv.cell; have cE := hE.err.cell; have fE := hE.err.free; have cP := hE.plc.cell; have fP := hE.plc.free; have HE := Aside0.mk hE; have HR := Aside0.mk hr; clear hE hv hr)
      go_ret3
      exact ⟨_, rfl, Kd.R_mono HR.out (fun _ _ => trivial), HE.out.bel⟩
  · rw [if_pos he]
    have e1 : (e == 0) = false := by simpa using he
    have e2 : (e != 0) = true := by simpa using he
    clear he
    go_enter Try.func13, Try.ntmps13
    go_wp2_with (go_at_call 26; refine HP.out.mono ?_; rintro e' w2 ⟨rfl, hE⟩; obtain ⟨v, hv, hr⟩ := hE.outs; obtain ⟨A1, c1, e1_⟩ := Kd.R_slice hr; subst e1_; have cG := hv.cell; have cE := hE.err.cell; have fE := hE.err.free; have cP := hE.plc.cell; have fP := hE.plc.free; have HE := Aside0.mk hE; have HR := Aside0.mk hr; clear hE hv hr)
    have HE3 := HE
    clear cG cE fE cP fP HE HR
    refine start_ (n := 5) (S := fun w' => w'.cell? ⟨w.heap.size + 1, 0, none⟩ = some (.int .i64 e) ∧ w'.cell? ⟨w.heap.size + 1 + 1, 0, none⟩ = some (.int .i64 pl)) (ds := []) #[false, false, false, false, false] (by kernel_rfl) rfl rfl ⟨HE3.out.drew.err.cell, HE3.out.drew.plc.cell⟩ (fun hHeld => ?_)
    refine pure_ (i := 2) (N := some 2) (v := ?_) (a' := ?_) #[false, false, true, false, false] rfl rfl (by kernel_rfl) (fun _ _ _ h => h) (Or.inl ⟨by rfl, ?_⟩) ?_ ?_
    rotate_left
    · intro w'
      go_simp
      with_reducible rfl
    rotate_left
    · simp only [Act.put, List.setIfInBounds_toArray, List.set_cons_zero, List.set_cons_succ, i64_w, i32_w]
      rfl
    refine take_ (i := 0) (N := some 20) (v := ?_) (a' := ?_) #[true, false, true, false, false] rfl rfl (by kernel_rfl) (fun _ _ _ h => h) (Or.inl ⟨by rfl, ?_⟩) hHeld ?_ ?_
    rotate_left
    · rintro w' ⟨s0, s1⟩
      go_simp
      with_reducible rfl
    rotate_left
    · simp only [Act.put, List.setIfInBounds_toArray, List.set_cons_zero, List.set_cons_succ, i64_w, i32_w]
      rfl
    refine pure_ (i := 3) (N := some 3) (v := ?_) (a' := ?_) #[true, false, true, true, false] rfl rfl (by kernel_rfl) (fun _ _ _ h => h) (Or.inl ⟨by rfl, ?_⟩) ?_ ?_
    rotate_left
    · intro w'
      go_simp
      with_reducible rfl
    rotate_left
    · simp only [Act.put, List.setIfInBounds_toArray, List.set_cons_zero, List.set_cons_succ, i64_w, i32_w]
      rfl
    refine take_ (i := 1) (N := some 21) (v := ?_) (a' := ?_) #[true, true, true, true, false] rfl rfl (by kernel_rfl) (fun _ _ _ h => h) (Or.inl ⟨by rfl, ?_⟩) hHeld ?_ ?_
    rotate_left
    · rintro w' ⟨s0, s1⟩
      go_simp
      with_reducible rfl
    rotate_left
    · simp only [Act.put, List.setIfInBounds_toArray, List.set_cons_zero, List.set_cons_succ, i64_w, i32_w]
      rfl
    refine pure_ (i := 4) (N := some 4) (v := ?_) (a' := ?_) #[true, true, true, true, true] rfl rfl (by kernel_rfl) (fun _ _ _ h => h) (Or.inl ⟨by rfl, ?_⟩) ?_ ?_
    rotate_left
    · intro w'
      go_simp
      with_reducible rfl
    rotate_left
    · simp only [Act.put, List.setIfInBounds_toArray, List.set_cons_zero, List.set_cons_succ, i64_w, i32_w]
      rfl
    refine done_ (by kernel_rfl) ?_

    go_wp2
    go_ret3
    exact ⟨.slice none 0 0, rfl, Kd.R_nil _ _ _ _ _, HE3.out.drew.bel⟩
end Go.Proofs.Ytkaacdfikaggfaa.UriD
