/- Set's methods at ints. -/
import Derived.Test.YtpidbaaojgdpmaaSetHands
import Derived.Test.YtpidbaaojgdpmaaSetIns
import Derived.Test.YtpidbaaojgdpmaaWRepsOne
namespace Go.Proofs.Ytpidbaaojgdpmaa.SetW
open Go.RowKit Go.Sort Go.Proofs.YtpidbaaojgdpmaaW.PrintWords Go.Proofs.YtpidbaaojgdpmaaW.PrintMore Go.Proofs.YtpidbaaojgdpmaaW.PrintLast Go.Proofs.Ytpidbaaojgdpmaa.SetF Go.Proofs.Ytpidbaaojgdpmaa.OwnPut
set_option linter.unusedVariables false
set_option linter.unusedSimpArgs false

/-- A set at block g: its box, its row. -/
structure SetAt (W : World) (base g : Nat) (room : Nat) (v : Value) (l : List Int) : Prop where
  box : W.heap[g]? = some (.cells #[.int .i64 (room : Int), v] 49 (0, 0))
  row : W.ownsRow base 3 1 v l.length (l.map ei)
  rises : Rises l
  fits : l.length ≤ room
  room0 : 0 < room
  room1 : room ≤ 64
/-- Nothing has been turned but the set's own. -/
structure Upd (W W' : World) (g : Nat) (row : Option Nat) : Prop where
  os : W'.os = W.os
  tape : W'.tape = W.tape
  output : W'.output = W.output
  size : W.heap.size ≤ W'.heap.size
  block : ∀ k, k < W.heap.size → k ≠ g → some k ≠ row → W'.heap[k]? = W.heap[k]?
def insL (l : List Int) (x : Int) : List Int := l.take (l.countP (· < x)) ++ x :: l.drop (l.countP (· < x))
def addL (room : Nat) (l : List Int) (x : Int) : Int × List Int := if x ∈ l then (0, l) else if l.length = room then (2, l) else (0, insL l x)
theorem count_rises {l : List Int} (h : Rises l) (x : Int) : (∀ y ∈ l.take (l.countP (· < x)), y < x) ∧ (∀ y ∈ l.drop (l.countP (· < x)), x ≤ y) := by
  induction l with
  | nil => exact ⟨by simp, by simp⟩
  | cons a l ih =>
    obtain ⟨h1, h2⟩ := List.pairwise_cons.1 h
    obtain ⟨i1, i2⟩ := ih h2
    by_cases ha : a < x
    · rw [List.countP_cons_of_pos (by simpa using ha)]
      refine ⟨fun y hy => ?_, fun y hy => ?_⟩
      · rw [List.take_succ_cons] at hy
        rcases List.mem_cons.1 hy with rfl | hy
        · exact ha
        · exact i1 y hy
      · exact i2 y (by simpa using hy)
    · have hz : l.countP (· < x) = 0 := by
        rw [List.countP_eq_zero]
        intro y hy
        have := h1 y hy
        simp; omega
      rw [List.countP_cons_of_neg (by simpa using ha), hz]
      refine ⟨by simp, fun y hy => ?_⟩
      rcases List.mem_cons.1 (by simpa using hy) with rfl | hy
      · omega
      · have := h1 y hy; omega
theorem mem_insL {l : List Int} {x y : Int} : y ∈ insL l x ↔ y = x ∨ y ∈ l := by
  unfold insL
  rw [List.mem_append, List.mem_cons]
  have := List.take_append_drop (l.countP (· < x)) l
  constructor
  · rintro (h | h | h)
    · exact .inr (List.mem_of_mem_take h)
    · exact .inl h
    · exact .inr (List.mem_of_mem_drop h)
  · rintro (h | h)
    · exact .inr (.inl h)
    · rw [← this, List.mem_append] at h
      rcases h with h | h
      · exact .inl h
      · exact .inr (.inr h)
theorem insL_rises {l : List Int} {x : Int} (h : Rises l) (hx : x ∉ l) : Rises (insL l x) := by
  obtain ⟨h1, h2⟩ := count_rises h x
  unfold insL
  refine List.pairwise_append.2 ⟨List.Pairwise.take h, List.pairwise_cons.2 ⟨fun y hy => ?_, List.Pairwise.drop h⟩, fun a ha b hb => ?_⟩
  · have := h2 y hy
    have hne : x ≠ y := fun e => hx (e ▸ List.mem_of_mem_drop hy)
    omega
  · rcases List.mem_cons.1 hb with rfl | hb
    · exact h1 a ha
    · have := h1 a ha; have := h2 b hb; omega
theorem insL_len (l : List Int) (x : Int) : (insL l x).length = l.length + 1 := by
  unfold insL
  have := List.countP_le_length (p := fun y : Int => decide (y < x)) (l := l)
  simp; omega
set_option maxHeartbeats 4000000 in
set_option maxRecDepth 100000 in
theorem given_calls (g : Nat) (room : Nat) (v : Value) (W : World) (hb : W.heap[g]? = some (.cells #[.int .i64 (room : Int), v] 49 (0, 0))) :
    Calls Try.prog 47 #[.pointer (some ⟨g, 0, none⟩)] W fun e w' => e = .returned (.bool (decide (0 < room))) ∧ W = w' := by
  have hc : W.cell? ⟨g, 0, none⟩ = some (.int .i64 (room : Int)) := blk_cell hb 0
  have hd : decide ((room : Int) > 0) = decide (0 < room) := by simp
  clear hb
  go_enter Try.func47, Try.ntmps47
  go_wp2
  go_ret
  exact ⟨rfl, rfl⟩
theorem upd_drewN (W : World) (q g : Nat) (row : Option Nat) : Upd W (W.drewN q) g row := ⟨rfl, rfl, rfl, Nat.le_refl _, fun _ _ _ _ => rfl⟩
theorem SetAt.drewN {W : World} {base g room : Nat} {v : Value} {l : List Int} (h : SetAt W base g room v l) (q : Nat) : SetAt (W.drewN q) base g room v l := ⟨h.box, h.row, h.rises, h.fits, h.room0, h.room1⟩
theorem SetAt.drew {W : World} {base g room : Nat} {v : Value} {l : List Int} (h : SetAt W base g room v l) : SetAt W.drew base g room v l := ⟨h.box, h.row, h.rises, h.fits, h.room0, h.room1⟩
theorem grown_cell (w : World) (g j : Nat) (u : Value) : w.grownBy (w.setCell ⟨g, j, none⟩ u) (some g) := ⟨rfl, rfl, rfl, by simp [World.setCell], fun k _ hne => Below.heap_setCell w ⟨g, j, none⟩ u k (fun e => hne (by rw [e]))⟩
def AddPost (W : World) (base g room : Nat) (v : Value) (l : List Int) (x : Int) (e : Ending) (W' : World) : Prop :=
  ∃ v', e = .returned (.int .i64 (addL room l x).1) ∧ SetAt W' base g room v' (addL room l x).2 ∧ Upd W W' g v.ownBlock ∧ (v'.ownBlock = v.ownBlock ∨ ∃ b, v'.ownBlock = some b ∧ W.heap.size ≤ b)
theorem own_ne_box {W : World} {base g room : Nat} {v : Value} {l : List Int} (h : SetAt W base g room v l) : some g ≠ v.ownBlock := by
  rcases h.row.2 with ⟨rfl, _⟩ | ⟨g', cap, cur, rfl, _, hg, _⟩
  · simp [Value.ownBlock]
  · intro e
    injection e with e
    exact blk_ne h.box hg (by decide) e
/-- What Insert leaves, the element's own block laid ahead of it. -/
theorem ins_at (W : World) (base g room : Nat) (v : Value) (l : List Int) (x : Int) (h : SetAt W base g room v l) (hbase : base ≤ W.heap.size) :
    Calls Try.prog 49 #[v, .int .i64 ((l.countP (· < x) : Nat) : Int), .slice (some ⟨W.heap.size, 0, none⟩) 1 1] (W.alloc (.cells #[.int .i64 x] 3)) fun e w4 =>
      ∃ v4, e = .returned v4 ∧ (w4.ownsRow base 3 1 v4 (insL l x).length ((insL l x).map ei) ∧ Upd W w4 g v.ownBlock ∧ (v4.ownBlock = v.ownBlock ∨ ∃ b, v4.ownBlock = some b ∧ W.heap.size ≤ b)) ∧ w4.heap[g]? = some (.cells #[.int .i64 (room : Int), v] 49 (0, 0)) := by
  have hb := below_alloc (Below.refl W.heap.size W) (.cells #[.int .i64 x] 3)
  have ho := pw_own_below h.row hb
  have hgl : g < W.heap.size := blk_lt h.box
  have hnew := heap_alloc_new W (.cells #[.int .i64 x] 3)
  have h64 : l.length ≤ 64 := Nat.le_trans h.fits h.room1
  have hle : l.countP (· < x) ≤ l.length := List.countP_le_length
  have hsz : (W.alloc (.cells #[.int .i64 x] 3)).heap.size = W.heap.size + 1 := by simp
  have hne : some W.heap.size ≠ v.ownBlock := by
    rcases h.row.2 with ⟨rfl, _⟩ | ⟨g', cap, cur, rfl, _, hg, _⟩
    · simp [Value.ownBlock]
    · intro e
      have e2 : W.heap.size = g' := Option.some.inj e
      have := blk_lt hg
      omega
  refine (ins_row _ base v l _ x W.heap.size ho hle hnew hne (by omega) (by omega)).mono ?_
  rintro e w4 ⟨v4, he, ho4, hgr, hat⟩
  refine ⟨v4, he, ⟨by rw [insL_len]; exact ho4, ⟨hgr.os, hgr.tape, hgr.output, by have := hgr.size; omega, fun k hk _ hn => (hgr.block k (by omega) hn).trans (hb.block k hk)⟩, ?_⟩, (hgr.block g (by omega) (own_ne_box h)).trans ((hb.block g hgl).trans h.box)⟩
  rcases hat with h1 | ⟨b, h1, h2⟩
  · exact .inl h1
  · exact .inr ⟨b, h1, by omega⟩
set_option maxHeartbeats 4000000 in
set_option maxRecDepth 100000 in
theorem add_calls (W : World) (base g room : Nat) (v : Value) (l : List Int) (x : Int) (h : SetAt W base g room v l) (hbase : base ≤ W.heap.size) :
    Calls Try.prog 31 #[.pointer (some ⟨g, 0, none⟩), .int .i64 x] W (AddPost W base g room v l x) := by
  have hgl : g < W.heap.size := blk_lt h.box
  have h64 : l.length ≤ 64 := Nat.le_trans h.fits h.room1
  obtain ⟨A, c, hv, hnc, hC⟩ := Kd.R_reads (R_own_int (e := 3) h.row)
  subst hv
  have HG := Aside0.mk (given_calls g room _ W h.box)
  have HS := Aside0.mk h
  have HBs := Aside0.mk (bsearch_calls A c l x W hC h.rises (by omega))
  have hr0 : decide (0 < room) = true := decide_eq_true h.room0
  have r0 : W.cell? ⟨g, 0, none⟩ = some (.int .i64 (room : Int)) := blk_cell h.box 0
  have r1 : W.cell? ⟨g, 1, none⟩ = some (.slice A l.length c) := blk_cell h.box 1
  clear h hC hnc
  rw [hr0] at HG
  by_cases hx : x ∈ l
  · have hcx : l.contains x = true := by simpa using hx
    rw [hcx] at HBs
    have HP := Aside0.mk (show addL room l x = (0, l) from by unfold addL; rw [if_pos hx])
    clear hx hcx
    go_enter Try.func31, Try.ntmps31
    go_wp2_with (first
      | (go_at_call 47; refine HG.out.mono ?_; rintro e w1 ⟨rfl, rfl⟩)
      | (go_at_call 48; refine HBs.out.mono ?_; rintro e w2 ⟨rfl, q, rfl⟩))
    go_ret
    exact ⟨_, by rw [HP.out]; rfl, by rw [HP.out]; exact HS.out.drewN q, upd_drewN W q g _, .inl rfl⟩
  · have hcx : l.contains x = false := by simpa using hx
    rw [hcx] at HBs
    by_cases hf : l.length = room
    · have HP := Aside0.mk (show addL room l x = (2, l) from by unfold addL; rw [if_neg hx, if_pos hf])
      have hfd : decide ((l.length : Int) = (room : Int)) = true := decide_eq_true (by omega)
      have hfe : ((l.length : Int) == (room : Int)) = true := by simp; omega
      clear hx hcx hf
      go_enter Try.func31, Try.ntmps31
      go_wp2_with (first
        | (go_at_call 47; refine HG.out.mono ?_; rintro e w1 ⟨rfl, rfl⟩)
        | (go_at_call 48; refine HBs.out.mono ?_; rintro e w2 ⟨rfl, q, rfl⟩))
      refine start_ (n := 11) (S := fun w' => w'.cell? ⟨g, 0, none⟩ = some (.int .i64 (room : Int)) ∧ w'.cell? ⟨g, 1, none⟩ = some (.slice A l.length c)) (ds := []) #[false, false, false, false, false, false, false, false, false, false, false] (by kernel_rfl) rfl rfl ⟨r0, r1⟩ (fun hHeld => ?_)
      refine pure_ (i := 0) (N := some 22) (v := ?_) (a' := ?_) #[true, false, false, false, false, false, false, false, false, false, false] rfl rfl (by kernel_rfl) (fun _ _ _ h => h) (Or.inl ⟨by rfl, ?_⟩) ?_ ?_
      rotate_left
      · intro w'
        go_simp
        with_reducible rfl
      rotate_left
      · simp only [Act.put, List.setIfInBounds_toArray, List.set_cons_zero, List.set_cons_succ, i64_w, i32_w]
        rfl
      refine pure_ (i := 1) (N := some 23) (v := ?_) (a' := ?_) #[true, true, false, false, false, false, false, false, false, false, false] rfl rfl (by kernel_rfl) (fun _ _ _ h => h) (Or.inl ⟨by rfl, ?_⟩) ?_ ?_
      rotate_left
      · intro w'
        go_simp
        with_reducible rfl
      rotate_left
      · simp only [Act.put, List.setIfInBounds_toArray, List.set_cons_zero, List.set_cons_succ, i64_w, i32_w]
        rfl
      refine pure_ (i := 2) (N := some 24) (v := ?_) (a' := ?_) #[true, true, true, false, false, false, false, false, false, false, false] rfl rfl (by kernel_rfl) (fun _ _ _ h => h) (Or.inl ⟨by rfl, ?_⟩) ?_ ?_
      rotate_left
      · intro w'
        go_simp
        with_reducible rfl
      rotate_left
      · simp only [Act.put, List.setIfInBounds_toArray, List.set_cons_zero, List.set_cons_succ, i64_w, i32_w]
        rfl
      refine pure_ (i := 5) (N := some 27) (v := ?_) (a' := ?_) #[true, true, true, false, false, true, false, false, false, false, false] rfl rfl (by kernel_rfl) (fun _ _ _ h => h) (Or.inl ⟨by rfl, ?_⟩) ?_ ?_
      rotate_left
      · intro w'
        go_simp
        with_reducible rfl
      rotate_left
      · simp only [Act.put, List.setIfInBounds_toArray, List.set_cons_zero, List.set_cons_succ, i64_w, i32_w]
        rfl
      refine pure_ (i := 6) (N := some 28) (v := ?_) (a' := ?_) #[true, true, true, false, false, true, true, false, false, false, false] rfl rfl (by kernel_rfl) (fun _ _ _ h => h) (Or.inl ⟨by rfl, ?_⟩) ?_ ?_
      rotate_left
      · intro w'
        go_simp
        with_reducible rfl
      rotate_left
      · simp only [Act.put, List.setIfInBounds_toArray, List.set_cons_zero, List.set_cons_succ, i64_w, i32_w]
        rfl
      refine pure_ (i := 7) (N := some 29) (v := ?_) (a' := ?_) #[true, true, true, false, false, true, true, true, false, false, false] rfl rfl (by kernel_rfl) (fun _ _ _ h => h) (Or.inl ⟨by rfl, ?_⟩) ?_ ?_
      rotate_left
      · intro w'
        go_simp
        with_reducible rfl
      rotate_left
      · simp only [Act.put, List.setIfInBounds_toArray, List.set_cons_zero, List.set_cons_succ, i64_w, i32_w]
        rfl
      refine take_ (i := 3) (N := some 25) (v := ?_) (a' := ?_) #[true, true, true, true, false, true, true, true, false, false, false] rfl rfl (by kernel_rfl) (fun _ _ _ h => h) (Or.inl ⟨by rfl, ?_⟩) hHeld ?_ ?_
      rotate_left
      · rintro w' ⟨s0, s1⟩
        go_simp
        with_reducible rfl
      rotate_left
      · simp only [Act.put, List.setIfInBounds_toArray, List.set_cons_zero, List.set_cons_succ, i64_w, i32_w]
        rfl
      refine pure_ (i := 4) (N := some 26) (v := ?_) (a' := ?_) #[true, true, true, true, true, true, true, true, false, false, false] rfl rfl (by kernel_rfl) (fun _ _ _ h => h) (Or.inl ⟨by rfl, ?_⟩) ?_ ?_
      rotate_left
      · intro w'
        go_simp
        with_reducible rfl
      rotate_left
      · simp only [Act.put, List.setIfInBounds_toArray, List.set_cons_zero, List.set_cons_succ, i64_w, i32_w]
        rfl
      refine take_ (i := 8) (N := some 30) (v := ?_) (a' := ?_) #[true, true, true, true, true, true, true, true, true, false, false] rfl rfl (by kernel_rfl) (fun _ _ _ h => h) (Or.inl ⟨by rfl, ?_⟩) hHeld ?_ ?_
      rotate_left
      · rintro w' ⟨s0, s1⟩
        go_simp
        with_reducible rfl
      rotate_left
      · simp only [Act.put, List.setIfInBounds_toArray, List.set_cons_zero, List.set_cons_succ, i64_w, i32_w]
        rfl
      refine pure_ (i := 9) (N := some 31) (v := ?_) (a' := ?_) #[true, true, true, true, true, true, true, true, true, true, false] rfl rfl (by kernel_rfl) (fun _ _ _ h => h) (Or.inl ⟨by rfl, ?_⟩) ?_ ?_
      rotate_left
      · intro w'
        go_simp
        with_reducible rfl
      rotate_left
      · simp only [Act.put, List.setIfInBounds_toArray, List.set_cons_zero, List.set_cons_succ, i64_w, i32_w]
        rfl
      refine pure_ (i := 10) (N := some 21) (v := ?_) (a' := ?_) #[true, true, true, true, true, true, true, true, true, true, true] rfl rfl (by kernel_rfl) (fun _ _ _ h => h) (Or.inl ⟨by rfl, ?_⟩) ?_ ?_
      rotate_left
      · intro w'
        go_simp
        with_reducible rfl
      rotate_left
      · simp only [Act.put, List.setIfInBounds_toArray, List.set_cons_zero, List.set_cons_succ, i64_w, i32_w]
        rfl
      refine done_ (by kernel_rfl) ?_

      go_wp2
      go_ret
      exact ⟨_, by rw [HP.out]; rfl, by rw [HP.out]; exact (HS.out.drewN q).drew, ⟨rfl, rfl, rfl, Nat.le_refl _, fun _ _ _ _ => rfl⟩, .inl rfl⟩
    · have HP := Aside0.mk (show addL room l x = (0, insL l x) from by unfold addL; rw [if_neg hx, if_neg hf])
      have HX := Aside0.mk hx
      have HF := Aside0.mk hf
      have hfd : decide ((l.length : Int) = (room : Int)) = false := decide_eq_false (by omega)
      have hfe : ((l.length : Int) == (room : Int)) = false := by simp; omega
      clear hx hcx hf
      go_enter Try.func31, Try.ntmps31
      go_wp2_with (first
        | (go_at_call 47; refine HG.out.mono ?_; rintro e w1 ⟨rfl, rfl⟩)
        | (go_at_call 48; refine HBs.out.mono ?_; rintro e w2 ⟨rfl, q, rfl⟩))
      refine start_ (n := 11) (S := fun w' => w'.cell? ⟨g, 0, none⟩ = some (.int .i64 (room : Int)) ∧ w'.cell? ⟨g, 1, none⟩ = some (.slice A l.length c)) (ds := []) #[false, false, false, false, false, false, false, false, false, false, false] (by kernel_rfl) rfl rfl ⟨r0, r1⟩ (fun hHeld => ?_)
      refine pure_ (i := 0) (N := some 22) (v := ?_) (a' := ?_) #[true, false, false, false, false, false, false, false, false, false, false] rfl rfl (by kernel_rfl) (fun _ _ _ h => h) (Or.inl ⟨by rfl, ?_⟩) ?_ ?_
      rotate_left
      · intro w'
        go_simp
        with_reducible rfl
      rotate_left
      · simp only [Act.put, List.setIfInBounds_toArray, List.set_cons_zero, List.set_cons_succ, i64_w, i32_w]
        rfl
      refine pure_ (i := 1) (N := some 23) (v := ?_) (a' := ?_) #[true, true, false, false, false, false, false, false, false, false, false] rfl rfl (by kernel_rfl) (fun _ _ _ h => h) (Or.inl ⟨by rfl, ?_⟩) ?_ ?_
      rotate_left
      · intro w'
        go_simp
        with_reducible rfl
      rotate_left
      · simp only [Act.put, List.setIfInBounds_toArray, List.set_cons_zero, List.set_cons_succ, i64_w, i32_w]
        rfl
      refine pure_ (i := 2) (N := some 24) (v := ?_) (a' := ?_) #[true, true, true, false, false, false, false, false, false, false, false] rfl rfl (by kernel_rfl) (fun _ _ _ h => h) (Or.inl ⟨by rfl, ?_⟩) ?_ ?_
      rotate_left
      · intro w'
        go_simp
        with_reducible rfl
      rotate_left
      · simp only [Act.put, List.setIfInBounds_toArray, List.set_cons_zero, List.set_cons_succ, i64_w, i32_w]
        rfl
      refine pure_ (i := 5) (N := some 27) (v := ?_) (a' := ?_) #[true, true, true, false, false, true, false, false, false, false, false] rfl rfl (by kernel_rfl) (fun _ _ _ h => h) (Or.inl ⟨by rfl, ?_⟩) ?_ ?_
      rotate_left
      · intro w'
        go_simp
        with_reducible rfl
      rotate_left
      · simp only [Act.put, List.setIfInBounds_toArray, List.set_cons_zero, List.set_cons_succ, i64_w, i32_w]
        rfl
      refine pure_ (i := 6) (N := some 28) (v := ?_) (a' := ?_) #[true, true, true, false, false, true, true, false, false, false, false] rfl rfl (by kernel_rfl) (fun _ _ _ h => h) (Or.inl ⟨by rfl, ?_⟩) ?_ ?_
      rotate_left
      · intro w'
        go_simp
        with_reducible rfl
      rotate_left
      · simp only [Act.put, List.setIfInBounds_toArray, List.set_cons_zero, List.set_cons_succ, i64_w, i32_w]
        rfl
      refine pure_ (i := 7) (N := some 29) (v := ?_) (a' := ?_) #[true, true, true, false, false, true, true, true, false, false, false] rfl rfl (by kernel_rfl) (fun _ _ _ h => h) (Or.inl ⟨by rfl, ?_⟩) ?_ ?_
      rotate_left
      · intro w'
        go_simp
        with_reducible rfl
      rotate_left
      · simp only [Act.put, List.setIfInBounds_toArray, List.set_cons_zero, List.set_cons_succ, i64_w, i32_w]
        rfl
      refine take_ (i := 3) (N := some 25) (v := ?_) (a' := ?_) #[true, true, true, true, false, true, true, true, false, false, false] rfl rfl (by kernel_rfl) (fun _ _ _ h => h) (Or.inl ⟨by rfl, ?_⟩) hHeld ?_ ?_
      rotate_left
      · rintro w' ⟨s0, s1⟩
        go_simp
        with_reducible rfl
      rotate_left
      · simp only [Act.put, List.setIfInBounds_toArray, List.set_cons_zero, List.set_cons_succ, i64_w, i32_w]
        rfl
      refine pure_ (i := 4) (N := some 26) (v := ?_) (a' := ?_) #[true, true, true, true, true, true, true, true, false, false, false] rfl rfl (by kernel_rfl) (fun _ _ _ h => h) (Or.inl ⟨by rfl, ?_⟩) ?_ ?_
      rotate_left
      · intro w'
        go_simp
        with_reducible rfl
      rotate_left
      · simp only [Act.put, List.setIfInBounds_toArray, List.set_cons_zero, List.set_cons_succ, i64_w, i32_w]
        rfl
      refine take_ (i := 8) (N := some 30) (v := ?_) (a' := ?_) #[true, true, true, true, true, true, true, true, true, false, false] rfl rfl (by kernel_rfl) (fun _ _ _ h => h) (Or.inl ⟨by rfl, ?_⟩) hHeld ?_ ?_
      rotate_left
      · rintro w' ⟨s0, s1⟩
        go_simp
        with_reducible rfl
      rotate_left
      · simp only [Act.put, List.setIfInBounds_toArray, List.set_cons_zero, List.set_cons_succ, i64_w, i32_w]
        rfl
      refine pure_ (i := 9) (N := some 31) (v := ?_) (a' := ?_) #[true, true, true, true, true, true, true, true, true, true, false] rfl rfl (by kernel_rfl) (fun _ _ _ h => h) (Or.inl ⟨by rfl, ?_⟩) ?_ ?_
      rotate_left
      · intro w'
        go_simp
        with_reducible rfl
      rotate_left
      · simp only [Act.put, List.setIfInBounds_toArray, List.set_cons_zero, List.set_cons_succ, i64_w, i32_w]
        rfl
      refine pure_ (i := 10) (N := some 21) (v := ?_) (a' := ?_) #[true, true, true, true, true, true, true, true, true, true, true] rfl rfl (by kernel_rfl) (fun _ _ _ h => h) (Or.inl ⟨by rfl, ?_⟩) ?_ ?_
      rotate_left
      · intro w'
        go_simp
        with_reducible rfl
      rotate_left
      · simp only [Act.put, List.setIfInBounds_toArray, List.set_cons_zero, List.set_cons_succ, i64_w, i32_w]
        rfl
      refine done_ (by kernel_rfl) ?_

      have HI := Aside0.mk (ins_at ((W.drewN q).drew) base g room _ l x (HS.out.drewN q).drew hbase)
      go_wp2_with (go_at_call 49; refine HI.out.mono ?_; rintro e w4 ⟨v4, rfl, H4, hbx⟩; have HB4 := Aside0.mk H4; have c1 : w4.cell? ⟨g, 1, none⟩ = some (.slice A l.length c) := blk_cell hbx 1; have f1 : w4.frozen? ⟨g, 1, none⟩ = false := blk_frozen hbx 1; have HBx := Aside0.mk hbx; obtain ⟨A4, c4, e4⟩ := own_slice H4.1; subst e4; clear H4 hbx)
      go_ret
      have h1c : (Value.slice A4 (insL l x).length c4).oneCell' = true := rfl
      have hgl4 : g < w4.heap.size := blk_lt HBx.out
      obtain ⟨ho4, hu, hat⟩ := HB4.out
      have hg4 : w4.grownBy (w4.setCell ⟨g, 1, none⟩ (.slice A4 (insL l x).length c4)) (some g) := grown_cell w4 g 1 _
      have hbx2 := blk_set HBx.out 1 (.slice A4 (insL l x).length c4)
      have hne4 : (Value.slice A4 (insL l x).length c4).ownBlock = none ∨ (Value.slice A4 (insL l x).length c4).ownBlock ≠ some g := by
        refine .inr fun e => ?_
        rcases ho4.2 with ⟨h1, _⟩ | ⟨g', cap, cur, h1, _, hg, _⟩
        · rw [h1] at e
          cases e
        · rw [h1] at e
          exact blk_ne HBx.out hg (by decide) (Option.some.inj e).symm
      refine ⟨_, by rw [HP.out]; rfl, by rw [HP.out]; exact ⟨hbx2, own_other ho4 hg4 hne4, insL_rises HS.out.rises HX.out, by rw [insL_len]; have := HS.out.fits; have := HF.out; omega, HS.out.room0, HS.out.room1⟩, ⟨hg4.os.trans hu.os, hg4.tape.trans hu.tape, hg4.output.trans hu.output, Nat.le_trans hu.size hg4.size, fun k hk hkg hn => (hg4.block k (Nat.lt_of_lt_of_le hk hu.size) (fun e => hkg (Option.some.inj e))).trans (hu.block k hk hkg hn)⟩, hat⟩
end Go.Proofs.Ytpidbaaojgdpmaa.SetW
