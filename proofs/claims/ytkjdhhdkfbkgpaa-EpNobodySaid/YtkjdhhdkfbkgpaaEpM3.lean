/- Event processes: Args, Give. Event processes: Give. Laws of event processes: what is carried; awake. Laws of event processes: the calls, told by one fact. -/
import Derived.Test.YtkjdhhdkfbkgpaaEpM2
import Derived.Test.YtkjdhhdkfbkgpaaVmMR
namespace Go.Proofs.Ytkjdhhdkfbkgpaa.VmW
open Go.RowKit Go.Proofs.YtkjdhhdkfbkgpaaW.PrintWords Go.Proofs.YtkjdhhdkfbkgpaaW.PrintMore Go.Proofs.YtkjdhhdkfbkgpaaW.PrintLast Go.Proofs.Ytkjdhhdkfbkgpaa.Pvm
set_option linter.unusedVariables false
set_option linter.unusedSimpArgs false
section
variable {W W' w1 W1 W2 : World} {g : Nat} {d d1 : EpD} {K K1 K' : Nat → Prop} {x x1 x2 : EpS}
theorem EpAt.widen (h : EpAt W g d K x) (h1 : ∀ k, K k → K' k) (h2 : ∀ k, K' k → K k ∨ (¬ d.F g k ∧ k < W.heap.size)) : EpAt W g d K' x := by
  refine ⟨h.mem, Kd.V_mono h.code h1, h.chk, ?_, fun k hf hk => (h2 k hk).elim (h.apart k hf) (fun e => e.1 hf), fun k hk => (h2 k hk).elim (h.kb k) (fun e => e.2)⟩
  have hn := h.now
  revert hn
  rcases d.rq with _ | e <;> rcases x.now with _ | r
  · exact id
  · exact id
  · exact id
  · intro hn
    have hn : RqAt W g d.pp K x.code.length e r := hn
    exact ⟨hn.box, Kd.V_mono hn.st h1, Kd.V_mono hn.ca h1, hn.ne, hn.np, hn.may, hn.fu⟩
/-- The request has another state, of rows of its own. -/
theorem EpAt.redone (h : EpAt W g d K x) {r r' : Rq} {e : RqD} {B1 B2 : Option Addr} {c1 c2 : Nat} (hx : x.now = some r) (hd : d.rq = some e) (hb : Below W.heap.size W w1) (o1 : w1.ownsRow W.heap.size 3 1 (.slice B1 r'.s.st.length c1) r'.s.st.length (nums .i64 r'.s.st)) (o2 : w1.ownsRow W.heap.size 3 1 (.slice B2 r'.s.ca.length c2) r'.s.ca.length (nums .i64 r'.s.ca)) (hmay : mayP r'.s x.code.length) (hfu : 0 ≤ r'.fuel ∧ r'.fuel ≤ 1048576) (hm : Mv w1 W' (fun k => k = e.rb)) (hbx : W'.heap[e.rb]? = some (.cells (rqCells ⟨e.rb, B1, c1, B2, c2⟩ r') 91 (0, 0))) : EpPost W g d K ⟨x.code, x.b, x.o, some r'⟩ W' := by
  have v1 := Kd.R_V (base' := 0) (Kd.R_of_own (enc := Value.int .i64) (h1 := fun _ => rfl) (ok := fun k => (Value.slice B1 r'.s.st.length c1).ownBlock = some k) o1 (fun k hk => hk))
  have v2 := Kd.R_V (base' := 0) (Kd.R_of_own (enc := Value.int .i64) (h1 := fun _ => rfl) (ok := fun k => (Value.slice B2 r'.s.ca.length c2).ownBlock = some k) o2 (fun k hk => hk))
  have n1 := own_lt o1
  have n2 := own_lt o2
  have b1 : ∀ k, (Value.slice B1 r'.s.st.length c1).ownBlock = some k → W.heap.size ≤ k := fun k hk => own_base o1 k hk
  have b2 : ∀ k, (Value.slice B2 r'.s.ca.length c2).ownBlock = some k → W.heap.size ≤ k := fun k hk => own_base o2 k hk
  have hF : d.F g e.rb := .inr (.inr ⟨e, hd, rfl⟩)
  have hfl := h.flt
  have hFF : ∀ k, EpD.F ⟨d.pp, d.img, d.A, d.c, some ⟨e.rb, B1, c1, B2, c2⟩⟩ g k → d.F g k := by
    rintro k (hk | hk | ⟨r2, hr2, hk⟩)
    · exact .inl hk
    · exact .inr (.inl hk)
    · obtain rfl := Option.some.inj hr2
      exact .inr (.inr ⟨e, hd, hk⟩)
  have hw : EpAt w1 g d (fun k => K k ∨ (Value.slice B1 r'.s.st.length c1).ownBlock = some k ∨ (Value.slice B2 r'.s.ca.length c2).ownBlock = some k) x := (h.step hb).widen (fun k hk => .inl hk) (fun k hk => by
    rcases hk with hk | hk | hk
    · exact .inl hk
    · exact .inr ⟨fun hf => by have := hfl k hf; have := b1 k hk; omega, n1 k hk⟩
    · exact .inr ⟨fun hf => by have := hfl k hf; have := b2 k hk; omega, n2 k hk⟩)
  refine ⟨_, _, hw.rqset (e' := ⟨e.rb, B1, c1, B2, c2⟩) hx hd hm rfl hbx (Kd.V_mono v1 (fun k hk => .inr (.inl hk))) (Kd.V_mono v2 (fun k hk => .inr (.inr hk))) hmay hfu, (Mv.of_below hb (d.F g)).trans hm (fun k e1 => .inl (by rw [e1]; exact hF)), fun k hk => .inl (hFF k hk), fun k hk => ?_⟩
  rcases hk with hk | hk | hk
  · exact .inl hk
  · exact .inr (b1 k hk)
  · exact .inr (b2 k hk)
def argsP (x : EpS) (n : Int) : EpS × List Int × Int := match x.now with
  | none => (x, [], 3)
  | some r => if r.tr = true then (if (takeP' r.s n).2.2 = 0 then (⟨x.code, x.b, x.o, some ⟨(takeP' r.s n).1, r.text, r.fuel, r.tr⟩⟩, (takeP' r.s n).2.1, 0) else (x, [], (takeP' r.s n).2.2)) else (x, [], 3)
def giveP (x : EpS) (n : Int) : EpS × Int := match x.now with
  | none => (x, 3)
  | some r => if r.tr = true then (if (pushP r.s n).2 = 0 then (⟨x.code, x.b, x.o, some ⟨(pushP r.s n).1, r.text, r.fuel, false⟩⟩, 0) else (x, (pushP r.s n).2)) else (x, 3)
theorem takeP'_may {s : St} {n : Int} {k : Nat} (h : mayP s k) (h0 : (takeP' s n).2.2 = 0) : mayP (takeP' s n).1 k := by
  unfold takeP' at h0 ⊢
  by_cases c1 : n < 0
  · rw [if_pos c1] at h0; simp at h0
  rw [if_neg c1] at h0 ⊢
  by_cases c2 : (s.st.length : Int) < n
  · rw [if_pos c2] at h0; simp at h0
  rw [if_neg c2] at h0 ⊢
  exact ⟨h.1, h.2.1, by have := h.2.2.1; simp; omega, h.2.2.2⟩
theorem pushP_may {s : St} {n : Int} {k : Nat} (h : mayP s k) (h0 : (pushP s n).2 = 0) : mayP (pushP s n).1 k := by
  unfold pushP at h0 ⊢
  by_cases c1 : 64 ≤ s.st.length
  · rw [if_pos c1] at h0; simp at h0
  rw [if_neg c1]
  exact ⟨h.1, h.2.1, by simp; omega, h.2.2.2⟩
def ArgsPost (W : World) (g : Nat) (d : EpD) (K : Nat → Prop) (r : EpS × List Int × Int) (E : Ending) (W' : World) : Prop := ∃ A c, E = .returned (.tuple #[.slice A r.2.1.length c, .int .i64 r.2.2]) ∧ W'.ownsRow W.heap.size 3 1 (.slice A r.2.1.length c) r.2.1.length (nums .i64 r.2.1) ∧ EpPost W g d K r.1 W'
set_option maxHeartbeats 4000000 in
set_option maxRecDepth 100000 in
theorem EpAt.args_no (h : EpAt W g d K x) (n : Int) (ht : trapP x = 3) : Calls Try.prog 22 #[.pointer (some ⟨g, 0, none⟩), .int .i64 n] W (ArgsPost W g d K (x, [], 3)) := by
  have HT := h.trapped_calls
  rw [ht] at HT
  have HT := Aside0.mk HT
  have HS := Aside0.mk h.same
  clear h ht
  go_enter Try.func22, Try.ntmps22
  go_wp2_with (go_at_call 42; (with_reducible refine HT.out.mono ?_); rintro e w1 ⟨rfl, rfl⟩)
  go_ret2
  exact ⟨none, 0, rfl, own_nil _ _ _ _, HS.out⟩
set_option maxHeartbeats 4000000 in
set_option maxRecDepth 100000 in
theorem EpAt.args_err (h : EpAt W g d K x) {r : Rq} {e : RqD} (hx : x.now = some r) (hd : d.rq = some e) (ht : trapP x = 0) (n : Int) (hn : n ≤ 9223372036854775807) {S : St} {L : List Int} {er : Int} (hr : takeP' r.s n = (S, L, er)) (her : er ≠ 0) : Calls Try.prog 22 #[.pointer (some ⟨g, 0, none⟩), .int .i64 n] W (ArgsPost W g d K (x, [], er)) := by
  have HT := h.trapped_calls
  rw [ht] at HT
  have HT := Aside0.mk HT
  have hc := (RN.start h).cells hx hd
  obtain ⟨c0, c1, hbx⟩ := hc
  have q0 : W.cell? ⟨e.rb, 0, none⟩ = some (.int .i64 r.s.pc) := blk_cell hbx 0
  have q1 : W.cell? ⟨e.rb, 1, none⟩ = some (.slice e.A1 r.s.st.length e.c1) := blk_cell hbx 1
  have q2 : W.cell? ⟨e.rb, 2, none⟩ = some (.slice e.A2 r.s.ca.length e.c2) := blk_cell hbx 2
  have hq : RqAt W g d.pp K x.code.length e r := by
    have := h.now
    rw [hx, hd] at this
    exact this
  have hm := hq.may
  have HK := take_calls W r.s e.A1 e.A2 e.c1 e.c2 (Kd.V_reads' hq.st).2.2 (Kd.V_reads' hq.ca).2.2 (by have := hm.2.2.1; omega) (by have := hm.2.2.2.1; omega) n hn
  rw [hr] at HK
  have HK := Aside0.mk HK
  have HQ := Aside0.mk (fun (w : World) (hb : Below W.heap.size W w) => h.quiet hb)
  have d0 : (er == 0) = false := beq_false_of_ne her
  have d1 : (er = 0) = False := eq_false her
  clear h hx hd hr hq hm hbx her ht hn
  go_enter Try.func22, Try.ntmps22
  go_wp2_with (first
    | (go_at_call 42; (with_reducible refine HT.out.mono ?_); rintro e w1 ⟨rfl, rfl⟩)
    | (go_at_call 43; (with_reducible refine HK.out.mono ?_); rintro e_ w1 ⟨B1, b1, B2, b2, B3, b3, rfl, o1, o2, o3, hb⟩; have HB := Aside0.mk hb; clear o1 o2 o3 hb))
  go_ret2
  exact ⟨none, 0, rfl, own_nil _ _ _ _, HQ.out _ (below_alloc HB.out _)⟩
set_option maxHeartbeats 4000000 in
set_option maxRecDepth 100000 in
theorem EpAt.args_ok (h : EpAt W g d K x) {r : Rq} {e : RqD} (hx : x.now = some r) (hd : d.rq = some e) (htr : r.tr = true) (n : Int) (hn : n ≤ 9223372036854775807) {S : St} {L : List Int} (hr : takeP' r.s n = (S, L, 0)) : Calls Try.prog 22 #[.pointer (some ⟨g, 0, none⟩), .int .i64 n] W (ArgsPost W g d K (⟨x.code, x.b, x.o, some ⟨S, r.text, r.fuel, r.tr⟩⟩, L, 0)) := by
  have HT := h.trapped_calls
  rw [show trapP x = 0 from by unfold trapP; rw [hx]; exact if_pos htr] at HT
  have HT := Aside0.mk HT
  have hc := (RN.start h).cells hx hd
  obtain ⟨c0, c1, hbx⟩ := hc
  have q0 : W.cell? ⟨e.rb, 0, none⟩ = some (.int .i64 r.s.pc) := blk_cell hbx 0
  have q1 : W.cell? ⟨e.rb, 1, none⟩ = some (.slice e.A1 r.s.st.length e.c1) := blk_cell hbx 1
  have q2 : W.cell? ⟨e.rb, 2, none⟩ = some (.slice e.A2 r.s.ca.length e.c2) := blk_cell hbx 2
  have hq : RqAt W g d.pp K x.code.length e r := by
    have := h.now
    rw [hx, hd] at this
    exact this
  have hm := hq.may
  have HK := take_calls W r.s e.A1 e.A2 e.c1 e.c2 (Kd.V_reads' hq.st).2.2 (Kd.V_reads' hq.ca).2.2 (by have := hm.2.2.1; omega) (by have := hm.2.2.2.1; omega) n hn
  rw [hr] at HK
  have HK := Aside0.mk HK
  have hmay : mayP S x.code.length := by
    have := takeP'_may (s := r.s) (n := n) hm (by rw [hr])
    rw [hr] at this
    exact this
  have HE := Aside0.mk (And.intro hmay hq.fu)
  have HH := Aside0.mk h
  have HX := Aside0.mk (And.intro hx hd)
  clear h hx hd hr hq hm hn hmay htr
  have HBX := Aside0.mk hbx
  clear hbx
  go_enter Try.func22, Try.ntmps22
  go_upto_region 7 with (first
    | (go_at_call 42; (with_reducible refine HT.out.mono ?_); rintro e w1 ⟨rfl, rfl⟩)
    | (go_at_call 43; (with_reducible refine HK.out.mono ?_); rintro e_ w1 ⟨B1, b1, B2, b2, B3, b3, rfl, o1, o2, o3, hb⟩; have HO1 := Aside0.mk o1; have HO2 := Aside0.mk o2; have HO3 := Aside0.mk o3; have HB := Aside0.mk hb; clear o1 o2 o3 hb))
  have hx := heap_alloc_new w1 (.cells #[.int .i64 S.pc, .slice B1 S.st.length b1, .slice B2 S.ca.length b2] 42)
  have hb2 := below_alloc HB.out (.cells #[.int .i64 S.pc, .slice B1 S.st.length b1, .slice B2 S.ca.length b2] 42)
  have o1 := own_alloc HO1.out (.cells #[.int .i64 S.pc, .slice B1 S.st.length b1, .slice B2 S.ca.length b2] 42)
  have o2 := own_alloc HO2.out (.cells #[.int .i64 S.pc, .slice B1 S.st.length b1, .slice B2 S.ca.length b2] 42)
  have o3 := own_alloc HO3.out (.cells #[.int .i64 S.pc, .slice B1 S.st.length b1, .slice B2 S.ca.length b2] 42)
  have hz : w1.heap.size < (w1.alloc (.cells #[.int .i64 S.pc, .slice B1 S.st.length b1, .slice B2 S.ca.length b2] 42)).heap.size := by simp
  have hn1 := HB.out.size
  generalize w1.alloc (.cells #[.int .i64 S.pc, .slice B1 S.st.length b1, .slice B2 S.ca.length b2] 42) = w2 at *
  generalize w1.heap.size = nb at *
  clear HB HO1 HO2 HO3 c0 c1 q0 q1 q2
  have x0 := blk_cell hx 0
  have x1 := blk_cell hx 1
  have x2 := blk_cell hx 2
  obtain ⟨_, c1, hbx⟩ := ((RN.start HH.out).step hb2).cells HX.out.1 HX.out.2
  have q0 : w2.cell? ⟨e.rb, 0, none⟩ = some (.int .i64 r.s.pc) := blk_cell hbx 0
  have q1 : w2.cell? ⟨e.rb, 1, none⟩ = some (.slice e.A1 r.s.st.length e.c1) := blk_cell hbx 1
  have q2 : w2.cell? ⟨e.rb, 2, none⟩ = some (.slice e.A2 r.s.ca.length e.c2) := blk_cell hbx 2
  have f0 := blk_frozen hbx 0
  have f1 := blk_frozen hbx 1
  have f2 := blk_frozen hbx 2
  have HX2 := Aside0.mk hbx
  have HO1 := Aside0.mk o1
  have HO2 := Aside0.mk o2
  have HO3 := Aside0.mk o3
  have HB2 := Aside0.mk hb2
  clear hbx o1 o2 o3 hb2 hx
  refine start_ (n := 8) (S := fun w' => w'.cell? ⟨g, 18, none⟩ = some (.pointer (some ⟨e.rb, 0, none⟩)) ∧ w'.cell? ⟨nb, 0, none⟩ = some (.int .i64 S.pc) ∧ w'.cell? ⟨nb, 1, none⟩ = some (.slice B1 S.st.length b1) ∧ w'.cell? ⟨nb, 2, none⟩ = some (.slice B2 S.ca.length b2)) (ds := [7]) #[false, false, false, false, false, false, false, false] (by kernel_rfl) rfl rfl ⟨c1, x0, x1, x2⟩ (fun hHeld => ?_)
  refine pure_ (i := 0) (N := some 31) (v := ?_) (a' := ?_) #[true, false, false, false, false, false, false, false] rfl rfl (by kernel_rfl) (fun _ _ _ h => h) (Or.inl ⟨by rfl, ?_⟩) ?_ ?_
  rotate_left
  · intro w'
    go_simp
    with_reducible rfl
  rotate_left
  · simp only [Act.put, List.setIfInBounds_toArray, List.set_cons_zero, List.set_cons_succ, i64_w, i32_w]
    rfl
  refine pure_ (i := 1) (N := some 32) (v := ?_) (a' := ?_) #[true, true, false, false, false, false, false, false] rfl rfl (by kernel_rfl) (fun _ _ _ h => h) (Or.inl ⟨by rfl, ?_⟩) ?_ ?_
  rotate_left
  · intro w'
    go_simp
    with_reducible rfl
  rotate_left
  · simp only [Act.put, List.setIfInBounds_toArray, List.set_cons_zero, List.set_cons_succ, i64_w, i32_w]
    rfl
  refine pure_ (i := 2) (N := some 33) (v := ?_) (a' := ?_) #[true, true, true, false, false, false, false, false] rfl rfl (by kernel_rfl) (fun _ _ _ h => h) (Or.inl ⟨by rfl, ?_⟩) ?_ ?_
  rotate_left
  · intro w'
    go_simp
    with_reducible rfl
  rotate_left
  · simp only [Act.put, List.setIfInBounds_toArray, List.set_cons_zero, List.set_cons_succ, i64_w, i32_w]
    rfl
  refine take_ (i := 3) (N := some 34) (v := ?_) (a' := ?_) #[true, true, true, true, false, false, false, false] rfl rfl (by kernel_rfl) (fun _ _ _ h => h) (Or.inl ⟨by rfl, ?_⟩) hHeld ?_ ?_
  rotate_left
  · rintro w' ⟨s0, s1, s2, s3⟩
    go_simp
    with_reducible rfl
  rotate_left
  · simp only [Act.put, List.setIfInBounds_toArray, List.set_cons_zero, List.set_cons_succ, i64_w, i32_w]
    rfl
  refine take_ (i := 4) (N := some 35) (v := ?_) (a' := ?_) #[true, true, true, true, true, false, false, false] rfl rfl (by kernel_rfl) (fun _ _ _ h => h) (Or.inl ⟨by rfl, ?_⟩) hHeld ?_ ?_
  rotate_left
  · rintro w' ⟨s0, s1, s2, s3⟩
    go_simp
    with_reducible rfl
  rotate_left
  · simp only [Act.put, List.setIfInBounds_toArray, List.set_cons_zero, List.set_cons_succ, i64_w, i32_w]
    rfl
  refine pure_ (i := 5) (N := some 36) (v := ?_) (a' := ?_) #[true, true, true, true, true, true, false, false] rfl rfl (by kernel_rfl) (fun _ _ _ h => h) (Or.inl ⟨by rfl, ?_⟩) ?_ ?_
  rotate_left
  · intro w'
    go_simp
    with_reducible rfl
  rotate_left
  · simp only [Act.put, List.setIfInBounds_toArray, List.set_cons_zero, List.set_cons_succ, i64_w, i32_w]
    rfl
  refine pure_ (i := 6) (N := some 37) (v := ?_) (a' := ?_) #[true, true, true, true, true, true, true, false] rfl rfl (by kernel_rfl) (fun _ _ _ h => h) (Or.inl ⟨by rfl, ?_⟩) ?_ ?_
  rotate_left
  · intro w'
    go_simp
    with_reducible rfl
  rotate_left
  · simp only [Act.put, List.setIfInBounds_toArray, List.set_cons_zero, List.set_cons_succ, i64_w, i32_w]
    rfl
  refine last_ (i := 7) (N := none) #[true, true, true, true, true, true, true, true] rfl rfl (by kernel_rfl) (by decide) (fun K hK => ?_)
  refine skip_ (w1 := ?_) (by rfl) rfl ?_ ?_
  rotate_left
  · go_simp
    rfl
  refine hK.out _ _ ?_
  clear hK K
  refine done_ (by kernel_rfl) ?_

  have hbx2 := blk_set (blk_set (blk_set HX2.out 0 (.int .i64 S.pc)) 1 (.slice B1 S.st.length b1)) 2 (.slice B2 S.ca.length b2)
  have hm8 : Mv w2 (((w2.setCell ⟨e.rb, 0, none⟩ (.int .i64 S.pc)).setCell ⟨e.rb, 1, none⟩ (.slice B1 S.st.length b1)).setCell ⟨e.rb, 2, none⟩ (.slice B2 S.ca.length b2)) (fun k => k = e.rb) := Mv.set (S := fun k => k = e.rb) (Mv.set (S := fun k => k = e.rb) (Mv.set (S := fun k => k = e.rb) (Mv.refl _ _) (p := ⟨e.rb, 0, none⟩) (.inl rfl) _) (p := ⟨e.rb, 1, none⟩) (.inl rfl) _) (p := ⟨e.rb, 2, none⟩) (.inl rfl) _
  have hrb : e.rb < W.heap.size := blk_lt HBX.out
  have o3 := hm8.own HO3.out (fun k hk e1 => by have := own_base HO3.out k hk; omega)
  have hR := HH.out.redone (r' := ⟨S, r.text, r.fuel, r.tr⟩) HX.out.1 HX.out.2 HB2.out HO1.out HO2.out HE.out.1 HE.out.2 hm8 hbx2
  have HR := Aside0.mk hR
  have HO := Aside0.mk o3
  clear hbx2 hm8 o3 hR
  go_wp2
  go_ret2
  first
    | exact ⟨B3, b3, rfl, HO.out, HR.out⟩
    | exact ⟨B3, b3, rfl, pw_own_below HO.out (below_drew (Below.refl _ _)), HR.out.step (below_drew (Below.refl _ _))⟩
theorem EpAt.args_calls (h : EpAt W g d K x) (n : Int) (hn : n ≤ 9223372036854775807) : Calls Try.prog 22 #[.pointer (some ⟨g, 0, none⟩), .int .i64 n] W (ArgsPost W g d K (argsP x n)) := by
  unfold argsP
  rcases h.nowc with ⟨hx, _⟩ | ⟨r, e, hx, hd, _, _⟩
  · rw [hx]
    exact h.args_no n (by unfold trapP; rw [hx])
  · rw [hx]
    show Calls _ _ _ _ (ArgsPost W g d K (if r.tr = true then _ else _))
    by_cases ht : r.tr = true
    · rw [if_pos ht]
      by_cases h0 : (takeP' r.s n).2.2 = 0
      · rw [if_pos h0]
        exact h.args_ok hx hd ht n hn (by rw [← h0])
      · rw [if_neg h0]
        exact h.args_err hx hd (by unfold trapP; rw [hx]; exact if_pos ht) n hn rfl h0
    · rw [if_neg ht]
      exact h.args_no n (by unfold trapP; rw [hx]; exact if_neg ht)
end
end Go.Proofs.Ytkjdhhdkfbkgpaa.VmW
namespace Go.Proofs.Ytkjdhhdkfbkgpaa.VmW
open Go.RowKit Go.Proofs.YtkjdhhdkfbkgpaaW.PrintWords Go.Proofs.YtkjdhhdkfbkgpaaW.PrintMore Go.Proofs.YtkjdhhdkfbkgpaaW.PrintLast Go.Proofs.Ytkjdhhdkfbkgpaa.Pvm
set_option linter.unusedVariables false
set_option linter.unusedSimpArgs false
section
variable {W W' w1 W1 W2 : World} {g : Nat} {d d1 : EpD} {K K1 K' : Nat → Prop} {x x1 x2 : EpS}
def GivePost (W : World) (g : Nat) (d : EpD) (K : Nat → Prop) (r : EpS × Int) (E : Ending) (W' : World) : Prop := E = .returned (.int .i64 r.2) ∧ EpPost W g d K r.1 W'
set_option maxHeartbeats 4000000 in
set_option maxRecDepth 100000 in
theorem EpAt.give_no (h : EpAt W g d K x) (n : Int) (ht : trapP x = 3) : Calls Try.prog 23 #[.pointer (some ⟨g, 0, none⟩), .int .i64 n] W (GivePost W g d K (x, 3)) := by
  have HT := h.trapped_calls
  rw [ht] at HT
  have HT := Aside0.mk HT
  have HS := Aside0.mk h.same
  clear h ht
  go_enter Try.func23, Try.ntmps23
  go_wp2_with (go_at_call 42; (with_reducible refine HT.out.mono ?_); rintro e w1 ⟨rfl, rfl⟩)
  go_ret
  exact ⟨rfl, HS.out⟩
set_option maxHeartbeats 4000000 in
set_option maxRecDepth 100000 in
theorem EpAt.give_err (h : EpAt W g d K x) {r : Rq} {e : RqD} (hx : x.now = some r) (hd : d.rq = some e) (ht : trapP x = 0) (n : Int) {S : St} {er : Int} (hr : pushP r.s n = (S, er)) (her : er ≠ 0) : Calls Try.prog 23 #[.pointer (some ⟨g, 0, none⟩), .int .i64 n] W (GivePost W g d K (x, er)) := by
  have HT := h.trapped_calls
  rw [ht] at HT
  have HT := Aside0.mk HT
  have hc := (RN.start h).cells hx hd
  obtain ⟨c0, c1, hbx⟩ := hc
  have q0 : W.cell? ⟨e.rb, 0, none⟩ = some (.int .i64 r.s.pc) := blk_cell hbx 0
  have q1 : W.cell? ⟨e.rb, 1, none⟩ = some (.slice e.A1 r.s.st.length e.c1) := blk_cell hbx 1
  have q2 : W.cell? ⟨e.rb, 2, none⟩ = some (.slice e.A2 r.s.ca.length e.c2) := blk_cell hbx 2
  have hq : RqAt W g d.pp K x.code.length e r := by
    have := h.now
    rw [hx, hd] at this
    exact this
  have hm := hq.may
  have HK := push_calls W r.s e.A1 e.A2 e.c1 e.c2 (Kd.V_reads' hq.st).2.2 (Kd.V_reads' hq.ca).2.2 (by have := hm.2.2.1; omega) (by have := hm.2.2.2.1; omega) n
  rw [hr] at HK
  have HK := Aside0.mk HK
  have HQ := Aside0.mk (fun (w : World) (hb : Below W.heap.size W w) => h.quiet hb)
  have d0 : (er == 0) = false := beq_false_of_ne her
  have d1 : (er = 0) = False := eq_false her
  clear h hx hd hr hq hm hbx her ht
  go_enter Try.func23, Try.ntmps23
  go_wp2_with (first
    | (go_at_call 42; (with_reducible refine HT.out.mono ?_); rintro e w1 ⟨rfl, rfl⟩)
    | (go_at_call 44; (with_reducible refine HK.out.mono ?_); rintro e_ w1 ⟨B1, b1, B2, b2, rfl, o1, o2, hb⟩; have HB := Aside0.mk hb; clear o1 o2 hb))
  go_ret
  exact ⟨rfl, HQ.out _ (below_alloc HB.out _)⟩
set_option maxHeartbeats 4000000 in
set_option maxRecDepth 100000 in
theorem EpAt.give_ok (h : EpAt W g d K x) {r : Rq} {e : RqD} (hx : x.now = some r) (hd : d.rq = some e) (htr : r.tr = true) (n : Int) {S : St} (hr : pushP r.s n = (S, 0)) : Calls Try.prog 23 #[.pointer (some ⟨g, 0, none⟩), .int .i64 n] W (GivePost W g d K (⟨x.code, x.b, x.o, some ⟨S, r.text, r.fuel, false⟩⟩, 0)) := by
  have HT := h.trapped_calls
  rw [show trapP x = 0 from by unfold trapP; rw [hx]; exact if_pos htr] at HT
  have HT := Aside0.mk HT
  have hc := (RN.start h).cells hx hd
  obtain ⟨c0, c1, hbx⟩ := hc
  have q0 : W.cell? ⟨e.rb, 0, none⟩ = some (.int .i64 r.s.pc) := blk_cell hbx 0
  have q1 : W.cell? ⟨e.rb, 1, none⟩ = some (.slice e.A1 r.s.st.length e.c1) := blk_cell hbx 1
  have q2 : W.cell? ⟨e.rb, 2, none⟩ = some (.slice e.A2 r.s.ca.length e.c2) := blk_cell hbx 2
  have hq : RqAt W g d.pp K x.code.length e r := by
    have := h.now
    rw [hx, hd] at this
    exact this
  have hm := hq.may
  have HK := push_calls W r.s e.A1 e.A2 e.c1 e.c2 (Kd.V_reads' hq.st).2.2 (Kd.V_reads' hq.ca).2.2 (by have := hm.2.2.1; omega) (by have := hm.2.2.2.1; omega) n
  rw [hr] at HK
  have HK := Aside0.mk HK
  have hmay : mayP S x.code.length := by
    have := pushP_may (s := r.s) (n := n) hm (by rw [hr])
    rw [hr] at this
    exact this
  have HE := Aside0.mk (And.intro hmay hq.fu)
  have HH := Aside0.mk h
  have HX := Aside0.mk (And.intro hx hd)
  clear h hx hd hr hq hm hmay htr
  have HBX := Aside0.mk hbx
  clear hbx
  go_enter Try.func23, Try.ntmps23
  go_upto_region 7 with (first
    | (go_at_call 42; (with_reducible refine HT.out.mono ?_); rintro e w1 ⟨rfl, rfl⟩)
    | (go_at_call 44; (with_reducible refine HK.out.mono ?_); rintro e_ w1 ⟨B1, b1, B2, b2, rfl, o1, o2, hb⟩; have HO1 := Aside0.mk o1; have HO2 := Aside0.mk o2; have HB := Aside0.mk hb; clear o1 o2 hb))
  have hx := heap_alloc_new w1 (.cells #[.int .i64 S.pc, .slice B1 S.st.length b1, .slice B2 S.ca.length b2] 42)
  have hb2 := below_alloc HB.out (.cells #[.int .i64 S.pc, .slice B1 S.st.length b1, .slice B2 S.ca.length b2] 42)
  have o1 := own_alloc HO1.out (.cells #[.int .i64 S.pc, .slice B1 S.st.length b1, .slice B2 S.ca.length b2] 42)
  have o2 := own_alloc HO2.out (.cells #[.int .i64 S.pc, .slice B1 S.st.length b1, .slice B2 S.ca.length b2] 42)
  have hz : w1.heap.size < (w1.alloc (.cells #[.int .i64 S.pc, .slice B1 S.st.length b1, .slice B2 S.ca.length b2] 42)).heap.size := by simp
  have hn1 := HB.out.size
  generalize w1.alloc (.cells #[.int .i64 S.pc, .slice B1 S.st.length b1, .slice B2 S.ca.length b2] 42) = w2 at *
  generalize w1.heap.size = nb at *
  clear HB HO1 HO2 c0 c1 q0 q1 q2
  have x0 := blk_cell hx 0
  have x1 := blk_cell hx 1
  have x2 := blk_cell hx 2
  obtain ⟨_, c1, hbx⟩ := ((RN.start HH.out).step hb2).cells HX.out.1 HX.out.2
  have q0 : w2.cell? ⟨e.rb, 0, none⟩ = some (.int .i64 r.s.pc) := blk_cell hbx 0
  have q1 : w2.cell? ⟨e.rb, 1, none⟩ = some (.slice e.A1 r.s.st.length e.c1) := blk_cell hbx 1
  have q2 : w2.cell? ⟨e.rb, 2, none⟩ = some (.slice e.A2 r.s.ca.length e.c2) := blk_cell hbx 2
  have f0 := blk_frozen hbx 0
  have f1 := blk_frozen hbx 1
  have f2 := blk_frozen hbx 2
  have q5 : w2.cell? ⟨e.rb, 5, none⟩ = some (.bool r.tr) := blk_cell hbx 5
  have f5 := blk_frozen hbx 5
  have HX2 := Aside0.mk hbx
  have HO1 := Aside0.mk o1
  have HO2 := Aside0.mk o2
  have HB2 := Aside0.mk hb2
  clear hbx o1 o2 hb2 hx
  refine start_ (n := 15) (S := fun w' => w'.cell? ⟨g, 18, none⟩ = some (.pointer (some ⟨e.rb, 0, none⟩)) ∧ w'.cell? ⟨nb, 0, none⟩ = some (.int .i64 S.pc) ∧ w'.cell? ⟨nb, 1, none⟩ = some (.slice B1 S.st.length b1) ∧ w'.cell? ⟨nb, 2, none⟩ = some (.slice B2 S.ca.length b2)) (ds := [11, 14]) #[false, false, false, false, false, false, false, false, false, false, false, false, false, false, false] (by kernel_rfl) rfl rfl ⟨c1, x0, x1, x2⟩ (fun hHeld => ?_)
  refine pure_ (i := 0) (N := some 28) (v := ?_) (a' := ?_) #[true, false, false, false, false, false, false, false, false, false, false, false, false, false, false] rfl rfl (by kernel_rfl) (fun _ _ _ h => h) (Or.inl ⟨by rfl, ?_⟩) ?_ ?_
  rotate_left
  · intro w'
    go_simp
    with_reducible rfl
  rotate_left
  · simp only [Act.put, List.setIfInBounds_toArray, List.set_cons_zero, List.set_cons_succ, i64_w, i32_w]
    rfl
  refine pure_ (i := 1) (N := some 29) (v := ?_) (a' := ?_) #[true, true, false, false, false, false, false, false, false, false, false, false, false, false, false] rfl rfl (by kernel_rfl) (fun _ _ _ h => h) (Or.inl ⟨by rfl, ?_⟩) ?_ ?_
  rotate_left
  · intro w'
    go_simp
    with_reducible rfl
  rotate_left
  · simp only [Act.put, List.setIfInBounds_toArray, List.set_cons_zero, List.set_cons_succ, i64_w, i32_w]
    rfl
  refine pure_ (i := 2) (N := some 30) (v := ?_) (a' := ?_) #[true, true, true, false, false, false, false, false, false, false, false, false, false, false, false] rfl rfl (by kernel_rfl) (fun _ _ _ h => h) (Or.inl ⟨by rfl, ?_⟩) ?_ ?_
  rotate_left
  · intro w'
    go_simp
    with_reducible rfl
  rotate_left
  · simp only [Act.put, List.setIfInBounds_toArray, List.set_cons_zero, List.set_cons_succ, i64_w, i32_w]
    rfl
  refine pure_ (i := 4) (N := some 32) (v := ?_) (a' := ?_) #[true, true, true, false, true, false, false, false, false, false, false, false, false, false, false] rfl rfl (by kernel_rfl) (fun _ _ _ h => h) (Or.inl ⟨by rfl, ?_⟩) ?_ ?_
  rotate_left
  · intro w'
    go_simp
    with_reducible rfl
  rotate_left
  · simp only [Act.put, List.setIfInBounds_toArray, List.set_cons_zero, List.set_cons_succ, i64_w, i32_w]
    rfl
  refine pure_ (i := 5) (N := some 33) (v := ?_) (a' := ?_) #[true, true, true, false, true, true, false, false, false, false, false, false, false, false, false] rfl rfl (by kernel_rfl) (fun _ _ _ h => h) (Or.inl ⟨by rfl, ?_⟩) ?_ ?_
  rotate_left
  · intro w'
    go_simp
    with_reducible rfl
  rotate_left
  · simp only [Act.put, List.setIfInBounds_toArray, List.set_cons_zero, List.set_cons_succ, i64_w, i32_w]
    rfl
  refine pure_ (i := 6) (N := some 34) (v := ?_) (a' := ?_) #[true, true, true, false, true, true, true, false, false, false, false, false, false, false, false] rfl rfl (by kernel_rfl) (fun _ _ _ h => h) (Or.inl ⟨by rfl, ?_⟩) ?_ ?_
  rotate_left
  · intro w'
    go_simp
    with_reducible rfl
  rotate_left
  · simp only [Act.put, List.setIfInBounds_toArray, List.set_cons_zero, List.set_cons_succ, i64_w, i32_w]
    rfl
  refine take_ (i := 3) (N := some 31) (v := ?_) (a' := ?_) #[true, true, true, true, true, true, true, false, false, false, false, false, false, false, false] rfl rfl (by kernel_rfl) (fun _ _ _ h => h) (Or.inl ⟨by rfl, ?_⟩) hHeld ?_ ?_
  rotate_left
  · rintro w' ⟨s0, s1, s2, s3⟩
    go_simp
    with_reducible rfl
  rotate_left
  · simp only [Act.put, List.setIfInBounds_toArray, List.set_cons_zero, List.set_cons_succ, i64_w, i32_w]
    rfl
  refine take_ (i := 7) (N := some 35) (v := ?_) (a' := ?_) #[true, true, true, true, true, true, true, true, false, false, false, false, false, false, false] rfl rfl (by kernel_rfl) (fun _ _ _ h => h) (Or.inl ⟨by rfl, ?_⟩) hHeld ?_ ?_
  rotate_left
  · rintro w' ⟨s0, s1, s2, s3⟩
    go_simp
    with_reducible rfl
  rotate_left
  · simp only [Act.put, List.setIfInBounds_toArray, List.set_cons_zero, List.set_cons_succ, i64_w, i32_w]
    rfl
  refine take_ (i := 8) (N := some 36) (v := ?_) (a' := ?_) #[true, true, true, true, true, true, true, true, true, false, false, false, false, false, false] rfl rfl (by kernel_rfl) (fun _ _ _ h => h) (Or.inl ⟨by rfl, ?_⟩) hHeld ?_ ?_
  rotate_left
  · rintro w' ⟨s0, s1, s2, s3⟩
    go_simp
    with_reducible rfl
  rotate_left
  · simp only [Act.put, List.setIfInBounds_toArray, List.set_cons_zero, List.set_cons_succ, i64_w, i32_w]
    rfl
  refine pure_ (i := 9) (N := some 37) (v := ?_) (a' := ?_) #[true, true, true, true, true, true, true, true, true, true, false, false, false, false, false] rfl rfl (by kernel_rfl) (fun _ _ _ h => h) (Or.inl ⟨by rfl, ?_⟩) ?_ ?_
  rotate_left
  · intro w'
    go_simp
    with_reducible rfl
  rotate_left
  · simp only [Act.put, List.setIfInBounds_toArray, List.set_cons_zero, List.set_cons_succ, i64_w, i32_w]
    rfl
  refine pure_ (i := 10) (N := some 38) (v := ?_) (a' := ?_) #[true, true, true, true, true, true, true, true, true, true, true, false, false, false, false] rfl rfl (by kernel_rfl) (fun _ _ _ h => h) (Or.inl ⟨by rfl, ?_⟩) ?_ ?_
  rotate_left
  · intro w'
    go_simp
    with_reducible rfl
  rotate_left
  · simp only [Act.put, List.setIfInBounds_toArray, List.set_cons_zero, List.set_cons_succ, i64_w, i32_w]
    rfl
  refine last_ (i := 11) (N := none) #[true, true, true, true, true, true, true, true, true, true, true, true, false, false, false] rfl rfl (by kernel_rfl) (by decide) (fun K hK => ?_)
  refine skip_ (w1 := ?_) (by rfl) rfl ?_ ?_
  rotate_left
  · go_simp
    rfl
  refine hK.out _ _ ?_
  clear hK K
  refine pure_ (i := 12) (N := some 39) (v := ?_) (a' := ?_) #[true, true, true, true, true, true, true, true, true, true, true, true, true, false, false] rfl rfl (by kernel_rfl) (fun _ _ _ h => h) (Or.inl ⟨by rfl, ?_⟩) ?_ ?_
  rotate_left
  · intro w'
    go_simp
    with_reducible rfl
  rotate_left
  · simp only [Act.put, List.setIfInBounds_toArray, List.set_cons_zero, List.set_cons_succ, i64_w, i32_w]
    rfl
  refine pure_ (i := 13) (N := some 40) (v := ?_) (a' := ?_) #[true, true, true, true, true, true, true, true, true, true, true, true, true, true, false] rfl rfl (by kernel_rfl) (fun _ _ _ h => h) (Or.inl ⟨by rfl, ?_⟩) ?_ ?_
  rotate_left
  · intro w'
    go_simp
    with_reducible rfl
  rotate_left
  · simp only [Act.put, List.setIfInBounds_toArray, List.set_cons_zero, List.set_cons_succ, i64_w, i32_w]
    rfl
  refine last_ (i := 14) (N := none) #[true, true, true, true, true, true, true, true, true, true, true, true, true, true, true] rfl rfl (by kernel_rfl) (by decide) (fun K hK => ?_)
  refine skip_ (w1 := ?_) (by rfl) rfl ?_ ?_
  rotate_left
  · go_simp
    rfl
  refine hK.out _ _ ?_
  clear hK K
  refine done_ (by kernel_rfl) ?_

  have hbx2 := blk_set (blk_set (blk_set (blk_set HX2.out 0 (.int .i64 S.pc)) 1 (.slice B1 S.st.length b1)) 2 (.slice B2 S.ca.length b2)) 5 (.bool false)
  have hm8 : Mv w2 ((((w2.setCell ⟨e.rb, 0, none⟩ (.int .i64 S.pc)).setCell ⟨e.rb, 1, none⟩ (.slice B1 S.st.length b1)).setCell ⟨e.rb, 2, none⟩ (.slice B2 S.ca.length b2)).setCell ⟨e.rb, 5, none⟩ (.bool false)) (fun k => k = e.rb) := Mv.set (S := fun k => k = e.rb) (Mv.set (S := fun k => k = e.rb) (Mv.set (S := fun k => k = e.rb) (Mv.set (S := fun k => k = e.rb) (Mv.refl _ _) (p := ⟨e.rb, 0, none⟩) (.inl rfl) _) (p := ⟨e.rb, 1, none⟩) (.inl rfl) _) (p := ⟨e.rb, 2, none⟩) (.inl rfl) _) (p := ⟨e.rb, 5, none⟩) (.inl rfl) _
  have hR := HH.out.redone (r' := ⟨S, r.text, r.fuel, false⟩) HX.out.1 HX.out.2 HB2.out HO1.out HO2.out HE.out.1 HE.out.2 hm8 hbx2
  have HR := Aside0.mk hR
  clear hbx2 hm8 hR
  go_wp2
  go_ret
  first
    | exact ⟨rfl, HR.out⟩
    | exact ⟨rfl, HR.out.step (below_drew (Below.refl _ _))⟩
    | exact ⟨rfl, HR.out.step (below_drew (below_drew (Below.refl _ _)))⟩
theorem EpAt.give_calls (h : EpAt W g d K x) (n : Int) : Calls Try.prog 23 #[.pointer (some ⟨g, 0, none⟩), .int .i64 n] W (GivePost W g d K (giveP x n)) := by
  unfold giveP
  rcases h.nowc with ⟨hx, _⟩ | ⟨r, e, hx, hd, _, _⟩
  · rw [hx]
    exact h.give_no n (by unfold trapP; rw [hx])
  · rw [hx]
    show Calls _ _ _ _ (GivePost W g d K (if r.tr = true then _ else _))
    by_cases ht : r.tr = true
    · rw [if_pos ht]
      by_cases h0 : (pushP r.s n).2 = 0
      · rw [if_pos h0]
        exact h.give_ok hx hd ht n (by rw [← h0])
      · rw [if_neg h0]
        exact h.give_err hx hd (by unfold trapP; rw [hx]; exact if_pos ht) n rfl h0
    · rw [if_neg ht]
      exact h.give_no n (by unfold trapP; rw [hx]; exact if_neg ht)
end
end Go.Proofs.Ytkjdhhdkfbkgpaa.VmW
namespace Go.Proofs.Ytkjdhhdkfbkgpaa.VmW
open Go.RowKit Go.Proofs.YtkjdhhdkfbkgpaaW.PrintWords Go.Proofs.YtkjdhhdkfbkgpaaW.PrintMore Go.Proofs.YtkjdhhdkfbkgpaaW.PrintLast Go.Proofs.Ytkjdhhdkfbkgpaa.Pvm
set_option linter.unusedVariables false
set_option linter.unusedSimpArgs false
structure PE where
  g : Nat
  d : EpD
  K : Nat → Prop
  x : EpS
def PE.F (p : PE) (k : Nat) : Prop := p.d.F p.g k
def PE.S (p : PE) (k : Nat) : Prop := p.F k ∨ p.K k
def PE.apart (p q : PE) : Prop := (∀ k, p.F k → ¬ q.S k) ∧ ∀ k, q.F k → ¬ p.S k
/-- What a law of event processes has in memory: processes, apart; and what is kept besides (Q, in the blocks R). -/
structure EL (w0 : World) (ps : List PE) (R : Nat → Prop) (Q : World → Prop) (W : World) : Prop where
  below : Below w0.heap.size w0 W
  ep : ∀ p ∈ ps, EpAt W p.g p.d p.K p.x ∧ ∀ k, p.S k → w0.heap.size ≤ k
  ap : ps.Pairwise PE.apart
  rlt : ∀ k, R k → k < W.heap.size
  rf : ∀ p ∈ ps, ∀ k, p.F k → ¬ R k
  q : Q W
  st : ∀ W1 W2 : World, (∀ k, R k → k < W1.heap.size → W2.heap[k]? = W1.heap[k]?) → Q W1 → Q W2
section
variable {w0 W W' W2 : World} {ps : List PE} {p p2 : PE} {R : Nat → Prop} {Q : World → Prop}
theorem EL.start (W : World) : EL W [] (fun _ => False) (fun _ => True) W := ⟨Below.refl _ _, fun p h => (by cases h), List.Pairwise.nil, fun _ h => h.elim, fun p h => (by cases h), trivial, fun _ _ _ _ => trivial⟩
theorem EL.step (h : EL w0 ps R Q W) (hb : Below W.heap.size W W') : EL w0 ps R Q W' :=
  ⟨below_step h.below hb, fun p hp => ⟨(h.ep p hp).1.step hb, (h.ep p hp).2⟩, h.ap, fun k hk => Nat.lt_of_lt_of_le (h.rlt k hk) hb.size, h.rf, h.st _ _ (fun k hk hl => hb.block k hl) h.q, h.st⟩
theorem PE.lt (h : EL w0 ps R Q W) (hp : p ∈ ps) : ∀ k, p.S k → k < W.heap.size := fun k hk => hk.elim (fun hf => (h.ep p hp).1.flt k hf) (fun hK => (h.ep p hp).1.kb k hK)
/-- A call on the first process. -/
theorem EL.call (h : EL w0 (p :: ps) R Q W) {x' : EpS} (hp : EpPost W p.g p.d p.K x' W') : ∃ d' K', EL w0 (⟨p.g, d', K', x'⟩ :: ps) R Q W' := by
  obtain ⟨d', K', ha, hm, hf, hk⟩ := hp
  have hF : ∀ k, p.d.F p.g k → w0.heap.size ≤ k := fun k hk => (h.ep p List.mem_cons_self).2 k (.inl hk)
  have hap := List.pairwise_cons.1 h.ap
  have hlt : ∀ q ∈ ps, ∀ k, q.S k → k < W.heap.size := fun q hq k hk => PE.lt h (List.mem_cons_of_mem _ hq) k hk
  refine ⟨d', K', ⟨?_, fun q hq => ?_, List.pairwise_cons.2 ⟨fun q hq => ⟨fun k h1 h2 => ?_, fun k h1 h2 => ?_⟩, hap.2⟩, fun k hk => Nat.lt_of_lt_of_le (h.rlt k hk) hm.size, fun q hq k h1 h2 => ?_, h.st _ _ (fun k hk hl => hm.block k hl (fun e => h.rf p List.mem_cons_self k e hk)) h.q, h.st⟩⟩
  · exact ⟨hm.os.trans h.below.os, hm.tape.trans h.below.tape, hm.output.trans h.below.output, Nat.le_trans h.below.size hm.size, fun i hi => (hm.block i (Nat.lt_of_lt_of_le hi h.below.size) (fun e => by have := hF i e; omega)).trans (h.below.block i hi)⟩
  · rcases List.mem_cons.1 hq with rfl | hq
    · refine ⟨ha, fun k hk1 => ?_⟩
      have hws := h.below.size
      rcases hk1 with h1 | h1
      · exact (hf k h1).elim (fun e => hF k e) (fun e => Nat.le_trans hws e)
      · exact (hk k h1).elim (fun e => (h.ep p List.mem_cons_self).2 k (.inr e)) (fun e => Nat.le_trans hws e)
    · have h5 := h.ep q (List.mem_cons_of_mem _ hq)
      have ha5 := hap.1 q hq
      exact ⟨h5.1.mv hm (fun k e1 e2 => ha5.1 k e2 (.inl e1)) (fun k e1 e2 => ha5.1 k e2 (.inr e1)), h5.2⟩
  · have hl := hlt q hq k h2
    rcases hf k h1 with e | e
    · exact (hap.1 q hq).1 k e h2
    · omega
  · have hl := hlt q hq k (.inl h1)
    rcases h2 with h2 | h2
    · rcases hf k h2 with e | e
      · exact (hap.1 q hq).2 k h1 (.inl e)
      · omega
    · rcases hk k h2 with e | e
      · exact (hap.1 q hq).2 k h1 (.inr e)
      · omega
  · rcases List.mem_cons.1 hq with rfl | hq
    · have hl := h.rlt k h2
      rcases hf k h1 with e | e
      · exact h.rf p List.mem_cons_self k e h2
      · omega
    · exact h.rf q (List.mem_cons_of_mem _ hq) k h1 h2
theorem PE.apart_symm {p q : PE} (h : p.apart q) : q.apart p := ⟨h.2, h.1⟩
theorem EL.swap (h : EL w0 (p :: p2 :: ps) R Q W) : EL w0 (p2 :: p :: ps) R Q W := by
  have hm : ∀ q, q ∈ p2 :: p :: ps → q ∈ p :: p2 :: ps := fun q hq => by
    simp only [List.mem_cons] at hq ⊢
    rcases hq with e | e | e
    · exact .inr (.inl e)
    · exact .inl e
    · exact .inr (.inr e)
  have h1 := List.pairwise_cons.1 h.ap
  have h2 := List.pairwise_cons.1 h1.2
  refine ⟨h.below, fun q hq => h.ep q (hm q hq), List.pairwise_cons.2 ⟨fun q hq => ?_, List.pairwise_cons.2 ⟨fun q hq => h1.1 q (List.mem_cons_of_mem _ hq), h2.2⟩⟩, h.rlt, fun q hq => h.rf q (hm q hq), h.q, h.st⟩
  rcases List.mem_cons.1 hq with rfl | hq
  · exact PE.apart_symm (h1.1 p2 List.mem_cons_self)
  · exact h2.1 q hq
/-- A process that is new. -/
theorem EL.add (h : EL w0 ps R Q W) {g : Nat} {d : EpD} {K : Nat → Prop} {x : EpS} (hb : Below W.heap.size W W') (ha : EpAt W' g d K x) (h1 : ∀ k, d.F g k → W.heap.size ≤ k) (h2 : ∀ k, K k → W.heap.size ≤ k) : EL w0 (⟨g, d, K, x⟩ :: ps) R Q W' := by
  have hs := h.step hb
  have hw := h.below.size
  have hS : ∀ k, PE.S ⟨g, d, K, x⟩ k → W.heap.size ≤ k := fun k hk => hk.elim (h1 k) (h2 k)
  refine ⟨hs.below, fun q hq => ?_, List.pairwise_cons.2 ⟨fun q hq => ⟨fun k e1 e2 => ?_, fun k e1 e2 => ?_⟩, h.ap⟩, hs.rlt, fun q hq k e1 e2 => ?_, hs.q, h.st⟩
  · rcases List.mem_cons.1 hq with rfl | hq
    · exact ⟨ha, fun k hk => Nat.le_trans hw (hS k hk)⟩
    · exact hs.ep q hq
  · have := PE.lt h hq k e2
    have := h1 k e1
    omega
  · have := PE.lt h hq k (.inl e1)
    have := hS k e2
    omega
  · rcases List.mem_cons.1 hq with rfl | hq
    · have := h.rlt k e2
      have := h1 k e1
      omega
    · exact h.rf q hq k e1 e2
/-- What is kept besides, in new blocks. -/
theorem EL.keep (h : EL w0 ps R Q W) (hb : Below W.heap.size W W') (R' : Nat → Prop) (Q' : World → Prop) (h1 : ∀ k, R' k → W.heap.size ≤ k ∧ k < W'.heap.size) (hq : Q' W') (hst : ∀ W1 W2 : World, (∀ k, R' k → k < W1.heap.size → W2.heap[k]? = W1.heap[k]?) → Q' W1 → Q' W2) : EL w0 ps (fun k => R k ∨ R' k) (fun W => Q W ∧ Q' W) W' := by
  have hs := h.step hb
  refine ⟨hs.below, hs.ep, h.ap, fun k hk => hk.elim (hs.rlt k) (fun e => (h1 k e).2), fun q hq k e1 e2 => ?_, ⟨hs.q, hq⟩, fun W1 W2 hh hq => ⟨h.st W1 W2 (fun k hk => hh k (.inl hk)) hq.1, hst W1 W2 (fun k hk => hh k (.inr hk)) hq.2⟩⟩
  rcases e2 with e2 | e2
  · exact h.rf q hq k e1 e2
  · have := PE.lt h hq k (.inl e1)
    have := (h1 k e2).1
    omega
theorem EL.box (h : EL w0 ps R Q W) (cs : Array Value) (t : TypeId) : EL w0 ps (fun k => R k ∨ k = W.heap.size) (fun w => Q w ∧ w.heap[W.heap.size]? = some (.cells cs t (0, 0))) (W.alloc (.cells cs t)) :=
  h.keep (below_alloc (Below.refl _ _) _) (fun k => k = W.heap.size) (fun w => w.heap[W.heap.size]? = some (.cells cs t (0, 0))) (fun k e => by subst e; simp) (heap_alloc_new W _) (fun W1 W2 hh hq => (hh _ rfl (blk_lt hq)).trans hq)
theorem EL.row (h : EL w0 ps R Q W) (hb : Below W.heap.size W W') {A : Option Addr} {c : Nat} {l : List Int} (ho : W'.ownsRow W.heap.size 3 1 (.slice A l.length c) l.length (nums .i64 l)) : EL w0 ps (fun k => R k ∨ (Value.slice A l.length c).ownBlock = some k) (fun w => Q w ∧ Kd.V (Kd.int .i64) 3 w 0 (fun k => (Value.slice A l.length c).ownBlock = some k) (.slice A l.length c) l) W' := by
  have v1 := Kd.R_V (base' := 0) (Kd.R_of_own (enc := Value.int .i64) (h1 := fun _ => rfl) (ok := fun k => (Value.slice A l.length c).ownBlock = some k) ho (fun k hk => hk))
  exact h.keep hb (fun k => (Value.slice A l.length c).ownBlock = some k) _ (fun k e => ⟨own_base ho k e, own_lt ho k e⟩) v1 (fun W1 W2 hh hq => Kd.V_step hq (fun k hk hl => hh k hk hl))
end
abbrev awCode : List In := [⟨1, 4⟩, ⟨24, 7⟩, ⟨25, 0⟩]
theorem aw_run (m : Mem) : runAll awCode ⟨0, [], []⟩ m 5 = ⟨⟨2, [4], []⟩, m, 2, 7, 2, 0⟩ := by rfl
theorem range_part {α : Type} (f : Nat → α) (N a n : Nat) (h : a + n ≤ N) : (((List.range N).map f).drop a).take n = (List.range n).map fun i => f (a + i) := by
  apply List.ext_getElem?
  intro i
  by_cases hi : i < n
  · rw [List.getElem?_take_of_lt hi, List.getElem?_drop, List.getElem?_map, List.getElem?_map, List.getElem?_range (by omega), List.getElem?_range hi]
    rfl
  · rw [List.getElem?_take_eq_none (by omega), List.getElem?_eq_none (by simp; omega)]
end Go.Proofs.Ytkjdhhdkfbkgpaa.VmW
namespace Go.Proofs.Ytkjdhhdkfbkgpaa.VmW
open Go.RowKit Go.Proofs.YtkjdhhdkfbkgpaaW.PrintWords Go.Proofs.YtkjdhhdkfbkgpaaW.PrintMore Go.Proofs.YtkjdhhdkfbkgpaaW.PrintLast Go.Proofs.Ytkjdhhdkfbkgpaa.Pvm
set_option linter.unusedVariables false
set_option linter.unusedSimpArgs false
/-- What a New that goes well leaves. -/
def NewOk (W : World) (code : List In) (img : ByteArray) (e : Ending) (W' : World) : Prop := ∃ g d K, e = .returned (.tuple #[.pointer (some ⟨g, 0, none⟩), .int .i64 0]) ∧ EpAt W' g d K (newX code img) ∧ (∀ k, d.F g k → W.heap.size ≤ k) ∧ (∀ k, K k → W.heap.size ≤ k) ∧ Below W.heap.size W W'
theorem new_ok (W : World) (A : Option Addr) (n c : Nat) (code : List In) (hn : code.length = n) (hC : Kd.C kIn W A code.length code) (hcap : code.length ≤ c) (img : ByteArray) (hk : (chkP code).1 = 0) (hi : img.size ≤ 4096) : Calls Try.prog 8 #[.slice A n c, .string img] W (NewOk W code img) := by
  subst hn
  refine (new_calls W A c code hC hcap img).mono ?_
  rintro e w' ⟨h, hb⟩
  rcases h with ⟨h, _⟩ | ⟨_, h, _⟩ | ⟨_, _, g, d, K, he, ha, h1, h2⟩
  · exact absurd hk h
  · omega
  · exact ⟨g, d, K, he, ha, h1, h2, hb⟩
section
variable {w0 W W' : World} {g : Nat} {d : EpD} {K : Nat → Prop} {x : EpS} {ps : List PE} {R : Nat → Prop} {Q : World → Prop}
theorem EL.at_ (h : EL w0 (⟨g, d, K, x⟩ :: ps) R Q W) : EpAt W g d K x := (h.ep _ List.mem_cons_self).1
/-- A call has turned the first process. -/
def ELn (w0 : World) (ps : List PE) (R : Nat → Prop) (Q : World → Prop) (g : Nat) (x' : EpS) (W' : World) : Prop := ∃ d' K', EL w0 (⟨g, d', K', x'⟩ :: ps) R Q W'
theorem EL.called (h : EL w0 (⟨g, d, K, x⟩ :: ps) R Q W) {x' : EpS} (hp : EpPost W g d K x' W') : ELn w0 ps R Q g x' W' := h.call (p := ⟨g, d, K, x⟩) hp
theorem beginE (h : EL w0 (⟨g, d, K, x⟩ :: ps) R Q W) {s : ByteArray} {n : Int} {x' : EpS} {err : Int} (he : beginP x s n = (x', err)) : Calls Try.prog 16 #[.pointer (some ⟨g, 0, none⟩), .string s, .int .i64 n] W fun e W' => e = .returned (.int .i64 err) ∧ ELn w0 ps R Q g x' W' := by
  have h1 := h.at_.begin_calls s n
  rw [he] at h1
  exact h1.mono fun e W' hp => ⟨hp.1, h.called hp.2⟩
theorem runE (h : EL w0 (⟨g, d, K, x⟩ :: ps) R Q W) {n : Int} {x' : EpS} {k t u err : Int} (he : runX x n = ⟨x', k, t, u, err⟩) : Calls Try.prog 17 #[.pointer (some ⟨g, 0, none⟩), .int .i64 n] W fun e W' => e = .returned (.tuple #[.agg #[.int .i64 k, .int .i64 t, .int .i64 u], .int .i64 err]) ∧ ELn w0 ps R Q g x' W' := by
  have h1 := h.at_.run_calls n
  rw [he] at h1
  exact h1.mono fun e W' hp => ⟨hp.1, h.called hp.2⟩
theorem argsE (h : EL w0 (⟨g, d, K, x⟩ :: ps) R Q W) {n : Int} (hn : n ≤ 9223372036854775807) {x' : EpS} {l : List Int} {m : Nat} {err : Int} (he : argsP x n = (x', l, err)) (hm : l.length = m) : Calls Try.prog 22 #[.pointer (some ⟨g, 0, none⟩), .int .i64 n] W fun e W' => ∃ A c, e = .returned (.tuple #[.slice A m c, .int .i64 err]) ∧ (Kd.C (Kd.int .i64) W' A l.length l ∧ l.length ≤ c) ∧ ELn w0 ps R Q g x' W' := by
  subst hm
  have h1 := h.at_.args_calls n hn
  rw [he] at h1
  exact h1.mono fun e W' ⟨A, c, e1, ho, hp⟩ => ⟨A, c, e1, own_C ho, h.called hp⟩
theorem giveE (h : EL w0 (⟨g, d, K, x⟩ :: ps) R Q W) {n : Int} {x' : EpS} {err : Int} (he : giveP x n = (x', err)) : Calls Try.prog 23 #[.pointer (some ⟨g, 0, none⟩), .int .i64 n] W fun e W' => e = .returned (.int .i64 err) ∧ ELn w0 ps R Q g x' W' := by
  have h1 := h.at_.give_calls n
  rw [he] at h1
  exact h1.mono fun e W' hp => ⟨hp.1, h.called hp.2⟩
theorem endE (h : EL w0 (⟨g, d, K, x⟩ :: ps) R Q W) : Calls Try.prog 15 #[.pointer (some ⟨g, 0, none⟩)] W fun e W' => e = .returned (.tuple #[]) ∧ ELn w0 ps R Q g (endP x) W' := h.at_.end_calls.mono fun e W' hp => ⟨hp.1, h.called hp.2⟩
theorem layE (h : EL w0 (⟨g, d, K, x⟩ :: ps) R Q W) {a : Int} {s : ByteArray} (hs : s.size < 140737488355328) {x' : EpS} {b : Bool} (he : layP x a s = (x', b)) : Calls Try.prog 11 #[.pointer (some ⟨g, 0, none⟩), .int .i64 a, .string s] W fun e W' => e = .returned (.bool b) ∧ ELn w0 ps R Q g x' W' := by
  have h1 := h.at_.lay_calls a s hs
  rw [he] at h1
  exact h1.mono fun e W' hp => ⟨hp.1, h.called hp.2⟩
theorem textE (h : EL w0 (⟨g, d, K, x⟩ :: ps) R Q W) {a n : Int} {s : ByteArray} {b : Bool} (he : textP x a n = (s, b)) : Calls Try.prog 10 #[.pointer (some ⟨g, 0, none⟩), .int .i64 a, .int .i64 n] W fun e W' => e = .returned (.tuple #[.string s, .bool b]) ∧ Below W.heap.size W W' := by
  have h1 := h.at_.text_calls a n
  rw [he] at h1
  exact h1
theorem pagesE (h : EL w0 (⟨g, d, K, x⟩ :: ps) R Q W) {l : List Int} {m : Nat} (he : pagesP x = l) (hm : l.length = m) : Calls Try.prog 12 #[.pointer (some ⟨g, 0, none⟩)] W fun e W' => ∃ A c, e = .returned (.slice A m c) ∧ W'.ownsRow W.heap.size 3 1 (.slice A l.length c) l.length (nums .i64 l) ∧ Below W.heap.size W W' := by
  subst hm he
  exact h.at_.pages_calls
theorem fuelE (h : EL w0 (⟨g, d, K, x⟩ :: ps) R Q W) {n : Int} (he : fuelP x = n) : Calls Try.prog 18 #[.pointer (some ⟨g, 0, none⟩)] W fun e W' => e = .returned (.int .i64 n) ∧ W = W' := by
  subst he
  exact h.at_.fuel_calls
theorem busyE (h : EL w0 (⟨g, d, K, x⟩ :: ps) R Q W) {b : Bool} (he : x.now.isSome = b) : Calls Try.prog 19 #[.pointer (some ⟨g, 0, none⟩)] W fun e W' => e = .returned (.bool b) ∧ W = W' := by
  subst he
  exact h.at_.busy
theorem inputE (h : EL w0 (⟨g, d, K, x⟩ :: ps) R Q W) {s : ByteArray} (he : inputP x = s) : Calls Try.prog 24 #[.pointer (some ⟨g, 0, none⟩)] W fun e W' => e = .returned (.string s) ∧ W = W' := by
  subst he
  exact h.at_.input_calls
end
theorem int_inj {a b : Int} (h : Ending.returned (.int .i64 a) = .returned (.int .i64 b)) : a = b := by injection h with h; injection h
set_option maxHeartbeats 4000000 in
set_option maxRecDepth 100000 in
theorem awake_calls (W : World) : Calls Try.prog 9 #[] W fun e W' => e = .returned (.bool true) ∧ Below W.heap.size W W' := by
  have HN := Aside0.mk (new_ok (W.alloc (.cells #[.int .i64 1, .int .i64 4, .int .i64 24, .int .i64 7, .int .i64 25, .int .i64 0] 27)) (some ⟨W.heap.size, 0, none⟩) 3 3 awCode rfl (code_lit W awCode _ rfl (by decide)) (by decide) ⟨#[97, 98]⟩ (by decide) (by decide))
  have H0 := Aside0.mk ((EL.start W).step (below_alloc (Below.refl _ _) (.cells #[.int .i64 1, .int .i64 4, .int .i64 24, .int .i64 7, .int .i64 25, .int .i64 0] 27)))
  have E1 := Aside0.mk (show beginP (newX awCode ⟨#[97, 98]⟩) ⟨#[120]⟩ 9 = (⟨awCode, (newX awCode ⟨#[97, 98]⟩).b, (newX awCode ⟨#[97, 98]⟩).o, some ⟨⟨0, [], []⟩, ⟨#[120]⟩, 9, false⟩⟩, 0) from rfl)
  have E2 := Aside0.mk (show runX ⟨awCode, (newX awCode ⟨#[97, 98]⟩).b, (newX awCode ⟨#[97, 98]⟩).o, some ⟨⟨0, [], []⟩, ⟨#[120]⟩, 9, false⟩⟩ 5 = ⟨⟨awCode, (newX awCode ⟨#[97, 98]⟩).b, (newX awCode ⟨#[97, 98]⟩).o, some ⟨⟨2, [4], []⟩, ⟨#[120]⟩, 7, true⟩⟩, 2, 7, 2, 0⟩ from by
    show (if (5 : Int) < 1 ∨ 1048576 < (5 : Int) then _ else goR _ _ (runAll awCode ⟨0, [], []⟩ (memN _) (if (9 : Int) < 5 then 9 else 5))) = _
    rw [if_neg (by decide), if_neg (by decide), aw_run]
    rfl)
  have E3 := Aside0.mk (show argsP ⟨awCode, (newX awCode ⟨#[97, 98]⟩).b, (newX awCode ⟨#[97, 98]⟩).o, some ⟨⟨2, [4], []⟩, ⟨#[120]⟩, 7, true⟩⟩ 1 = (⟨awCode, (newX awCode ⟨#[97, 98]⟩).b, (newX awCode ⟨#[97, 98]⟩).o, some ⟨⟨2, [], []⟩, ⟨#[120]⟩, 7, true⟩⟩, [4], 0) from rfl)
  have E4 := Aside0.mk (show textP ⟨awCode, (newX awCode ⟨#[97, 98]⟩).b, (newX awCode ⟨#[97, 98]⟩).o, some ⟨⟨2, [], []⟩, ⟨#[120]⟩, 7, true⟩⟩ 0 3 = (⟨#[97, 98, 0]⟩, true) from by
    unfold textP
    rw [if_pos (by decide)]
    show (strOfNums (((((List.range 4096).map (imgAt ⟨#[97, 98]⟩))).drop 0).take 3), true) = _
    rw [range_part _ _ _ _ (by omega)]
    rfl)
  have HS := Aside0.mk (fun (w : World) (A : Option Addr) (c : Nat) (hC : Kd.C (Kd.int .i64) w A 1 [4] ∧ 1 ≤ c) => (show Calls Try.prog 27 #[.slice A 1 c, .slice (some ⟨w.heap.size, 0, none⟩) 1 1] (w.alloc (.cells #[.int .i64 4] 3)) (BPost (w.alloc (.cells #[.int .i64 4] 3)) true) from same_calls A c [4] (some ⟨w.heap.size, 0, none⟩) 1 [4] (w.alloc (.cells #[.int .i64 4] 3)) (Kd.C_alloc hC.1 _) hC.2 (lit_C w [4] (by decide) _ rfl) (Nat.le_refl _) (by decide) (b := true) (by decide)))
  go_enter Try.func9, Try.ntmps9
  go_wp2_with (first
    | (go_at_call 8; (with_reducible refine HN.out.mono ?_); rintro e w1 ⟨g, d, K, rfl, ha, h1, h2, hb⟩; have HL1 := Aside0.mk (EL.add H0.out hb ha h1 h2); clear ha h1 h2 hb)
    | (go_at_call 16; (with_reducible refine (beginE HL1.out E1.out).mono ?_); rintro e w2 ⟨rfl, d2, K2, hl⟩; have HL2 := Aside0.mk hl; clear hl)
    | (go_at_call 17; (with_reducible refine (runE HL2.out E2.out).mono ?_); rintro e w3 ⟨rfl, d3, K3, hl⟩; have HL3 := Aside0.mk (hl.box #[.int .i64 2, .int .i64 7, .int .i64 2] 53); clear hl)
    | (go_at_call 22; (with_reducible refine (argsE HL3.out (by decide) E3.out (m := 1) rfl).mono ?_); rintro e w4 ⟨A4, c4, rfl, hC, d4, K4, hl⟩; have HL4 := Aside0.mk hl; have HC4 := Aside0.mk hC; clear hl hC)
    | (go_at_call 10; (with_reducible refine (textE HL4.out E4.out).mono ?_); rintro e w5 ⟨rfl, hb⟩; have HL5 := Aside0.mk (HL4.out.step hb); have HC5 := Aside0.mk (show Kd.C (Kd.int .i64) w5 A4 1 [4] ∧ 1 ≤ c4 from ⟨Kd.C_below HC4.out.1 hb, HC4.out.2⟩); clear hb; have hbx := HL5.out.q.2; have b0 := blk_cell hbx 0; have b1 := blk_cell hbx 1; have hlt := HL5.out.rlt _ (.inr rfl); clear hbx)
    | (go_at_call 27; (with_reducible refine (HS.out w5 A4 c4 HC5.out).mono ?_); rintro e w6 ⟨rfl, hb⟩; have HL6 := Aside0.mk ((HL5.out.step (below_alloc (Below.refl _ _) _)).step hb); clear hb)
    | (go_at_call 18; (with_reducible refine (fuelE HL6.out (n := 7) rfl).mono ?_); rintro e w7 ⟨rfl, rfl⟩))
  go_ret
  exact ⟨rfl, HL6.out.below⟩
end Go.Proofs.Ytkjdhhdkfbkgpaa.VmW
