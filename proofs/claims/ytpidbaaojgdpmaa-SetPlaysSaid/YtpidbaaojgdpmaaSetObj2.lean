/- Set's other methods at ints; what a change leaves as it was. -/
import Derived.Test.YtpidbaaojgdpmaaSetC
import Derived.Test.YtpidbaaojgdpmaaWKept
namespace Go.Proofs.Ytpidbaaojgdpmaa.SetW
open Go.RowKit Go.Sort Go.Proofs.YtpidbaaojgdpmaaW.PrintWords Go.Proofs.YtpidbaaojgdpmaaW.PrintMore Go.Proofs.YtpidbaaojgdpmaaW.PrintLast Go.Proofs.Ytpidbaaojgdpmaa.SetF Go.Proofs.Ytpidbaaojgdpmaa.OwnPut
set_option linter.unusedVariables false
set_option linter.unusedSimpArgs false
/-- Only blocks of S, and new ones, are other than they were. -/
structure Mod (W W' : World) (S : Nat → Prop) : Prop where
  os : W'.os = W.os
  tape : W'.tape = W.tape
  output : W'.output = W.output
  size : W.heap.size ≤ W'.heap.size
  block : ∀ k, k < W.heap.size → ¬ S k → W'.heap[k]? = W.heap[k]?
theorem Mod.of_below {W W' : World} (h : Below W.heap.size W W') (S : Nat → Prop) : Mod W W' S := ⟨h.os, h.tape, h.output, h.size, fun k hk _ => h.block k hk⟩
theorem Mod.of_upd {W W' : World} {g : Nat} {row : Option Nat} (h : Upd W W' g row) : Mod W W' (fun k => k = g ∨ some k = row) := ⟨h.os, h.tape, h.output, h.size, fun k hk hn => h.block k hk (fun e => hn (.inl e)) (fun e => hn (.inr e))⟩
theorem Mod.kept {W W' : World} {S : Nat → Prop} (h : Mod W W' S) : Kept W W' S := ⟨h.size, fun i hi hn => h.block i hi hn⟩
theorem below_mod {w W W' : World} {S : Nat → Prop} (h : Below w.heap.size w W) (m : Mod W W' S) (hS : ∀ k, S k → w.heap.size ≤ k) : Below w.heap.size w W' :=
  ⟨m.os.trans h.os, m.tape.trans h.tape, m.output.trans h.output, Nat.le_trans h.size m.size, fun i hi => (m.block i (Nat.lt_of_lt_of_le hi h.size) (fun hs => by have := hS i hs; omega)).trans (h.block i hi)⟩
theorem own_mod {W W' : World} {S : Nat → Prop} {base n size : Nat} {e : TypeId} {v : Value} {cs : List Value} (h : W.ownsRow base e size v n cs) (m : Mod W W' S) (hv : ∀ k, v.ownBlock = some k → ¬ S k) : W'.ownsRow base e size v n cs := by
  refine ⟨h.1, ?_⟩
  rcases h.2 with h2 | ⟨g, cap, cur, e1, hb, hg, hr⟩
  · exact .inl h2
  · exact .inr ⟨g, cap, cur, e1, hb, (m.block g (blk_lt hg) (hv g (by rw [e1]; rfl))).trans hg, hr⟩
theorem SetAt.mod {W W' : World} {S : Nat → Prop} {base g room : Nat} {v : Value} {l : List Int} (h : SetAt W base g room v l) (m : Mod W W' S) (hg : ¬ S g) (hv : ∀ k, v.ownBlock = some k → ¬ S k) : SetAt W' base g room v l :=
  ⟨(m.block g (blk_lt h.box) hg).trans h.box, own_mod h.row m hv, h.rises, h.fits, h.room0, h.room1⟩
/-- A row of ints that can be read on; its block is ok. -/
structure RowIn (W : World) (ok : Nat → Prop) (A : Option Addr) (c : Nat) (l : List Int) : Prop where
  cap : l.length ≤ c
  C : Kd.C (Kd.int .i64) W A l.length l
  foot : 0 < l.length → ∀ a, A = some a → ok a.block ∧ a.block < W.heap.size
theorem add_block (a : Addr) (k : Nat) : (a.add k).block = a.block := by cases a; simp only [Addr.add]; split <;> rfl
theorem RowIn.nil (W : World) (ok : Nat → Prop) : RowIn W ok none 0 [] := ⟨Nat.le_refl _, Kd.C_nil _ _, fun h => absurd h (by simp)⟩
theorem RowIn.mono {W : World} {ok ok' : Nat → Prop} {A : Option Addr} {c : Nat} {l : List Int} (h : RowIn W ok A c l) (hk : ∀ k, k < W.heap.size → ok k → ok' k) : RowIn W ok' A c l :=
  ⟨h.cap, h.C, fun hp a ha => ⟨hk _ (h.foot hp a ha).2 (h.foot hp a ha).1, (h.foot hp a ha).2⟩⟩
theorem RowIn.mod {W W' : World} {S ok : Nat → Prop} {A : Option Addr} {c : Nat} {l : List Int} (h : RowIn W ok A c l) (m : Mod W W' S) (hS : ∀ k, ok k → ¬ S k) : RowIn W' ok A c l := by
  refine ⟨h.cap, ?_, fun hp a ha => ⟨(h.foot hp a ha).1, Nat.lt_of_lt_of_le (h.foot hp a ha).2 m.size⟩⟩
  obtain ⟨h1, h2, h3⟩ := h.C
  refine ⟨h1, h2, fun hp => ?_⟩
  obtain ⟨ad, hA, hc⟩ := h3 hp
  refine ⟨ad, hA, fun j p hj => ?_⟩
  obtain ⟨cs, hl, hk, hcell⟩ := hc j p hj
  exact ⟨cs, hl, hk, fun i u hu => cell_kept (hcell i u hu) m.kept (hS _ (by rw [add_block]; exact (h.foot hp ad hA).1))⟩
/-- What a call has made. -/
theorem RowIn.fresh {W W' : World} {ok : Nat → Prop} {v : Value} {l : List Int} (hR : Kd.R (Kd.int .i64) 3 W' W.heap.size (fun _ => True) v l) (hok : ∀ k, W.heap.size ≤ k → ok k) : ∃ A c, v = .slice A l.length c ∧ RowIn W' ok A c l := by
  obtain ⟨A, c, rfl, hc, hC⟩ := Kd.R_reads hR
  refine ⟨A, c, rfl, hc, hC, fun hp a ha => ?_⟩
  have ho := (Kd.own_of_R hR).2
  rcases ho with ⟨_, h2⟩ | ⟨g, cap, cur, e1, hb, hg, _⟩
  · omega
  · injection e1 with e2
    rw [ha] at e2
    obtain rfl := Option.some.inj e2
    exact ⟨hok g hb, blk_lt hg⟩
def dropL (l : List Int) (x : Int) : List Int := l.take (l.countP (· < x)) ++ l.drop (l.countP (· < x) + 1)
theorem count_mem {l : List Int} (h : Rises l) {x : Int} (hx : x ∈ l) : l.countP (· < x) < l.length ∧ l[l.countP (· < x)]? = some x := by
  induction l with
  | nil => cases hx
  | cons a l ih =>
    obtain ⟨h1, h2⟩ := List.pairwise_cons.1 h
    by_cases ha : a < x
    · rw [List.countP_cons_of_pos (by simpa using ha)]
      rcases List.mem_cons.1 hx with rfl | hx
      · exact absurd ha (Int.lt_irrefl _)
      · have := ih h2 hx
        exact ⟨by simpa using this.1, by simpa using this.2⟩
    · have hz : l.countP (· < x) = 0 := by
        rw [List.countP_eq_zero]
        intro y hy
        have := h1 y hy
        simp; omega
      rw [List.countP_cons_of_neg (by simpa using ha), hz]
      rcases List.mem_cons.1 hx with rfl | hx
      · exact ⟨by simp, rfl⟩
      · exact absurd (h1 x hx) ha
theorem dropL_sub (l : List Int) (x : Int) : (dropL l x).Sublist l := by
  unfold dropL
  have h := List.take_append_drop (l.countP (· < x)) l
  refine Eq.subst (motive := fun m => List.Sublist (l.take (l.countP (· < x)) ++ l.drop (l.countP (· < x) + 1)) m) h ?_
  refine List.Sublist.append (List.Sublist.refl _) ?_
  rw [← List.drop_drop]
  exact List.drop_sublist _ _
theorem dropL_rises {l : List Int} (h : Rises l) (x : Int) : Rises (dropL l x) := List.Pairwise.sublist (dropL_sub l x) h
theorem mem_dropL {l : List Int} (h : Rises l) {x : Int} (hx : x ∈ l) {y : Int} : y ∈ dropL l x ↔ y ∈ l ∧ y ≠ x := by
  obtain ⟨h1, h2⟩ := count_mem h hx
  have hd : l = l.take (l.countP (· < x)) ++ x :: l.drop (l.countP (· < x) + 1) := by
    have h3 := List.take_append_drop (l.countP (· < x)) l
    rw [List.drop_eq_getElem_cons h1] at h3
    have h4 : l[l.countP (· < x)] = x := by rw [List.getElem?_eq_getElem h1] at h2; exact Option.some.inj h2
    rw [h4] at h3
    exact h3.symm
  have hr : Rises (l.take (l.countP (· < x)) ++ x :: l.drop (l.countP (· < x) + 1)) := hd ▸ h
  obtain ⟨_, h5, h6⟩ := List.pairwise_append.1 hr
  obtain ⟨h7, _⟩ := List.pairwise_cons.1 h5
  constructor
  · intro hy
    refine ⟨(dropL_sub l x).mem hy, fun e => ?_⟩
    subst e
    unfold dropL at hy
    rcases List.mem_append.1 hy with hy | hy
    · exact Int.lt_irrefl _ (h6 y hy y List.mem_cons_self)
    · exact Int.lt_irrefl _ (h7 y hy)
  · rintro ⟨hy, hne⟩
    rw [hd] at hy
    unfold dropL
    rcases List.mem_append.1 hy with hy | hy
    · exact List.mem_append_left _ hy
    · rcases List.mem_cons.1 hy with e | hy
      · exact absurd e hne
      · exact List.mem_append_right _ hy
theorem dropL_less {l : List Int} (h : Rises l) {x : Int} (hx : x ∈ l) : dropL l x = keptL l [x] false := rises_ext (dropL_rises h x) (keptL_rises _ _ _) fun y => by rw [mem_dropL h hx, mem_less]; simp
theorem less_out {l : List Int} (h : Rises l) {x : Int} (hx : x ∉ l) : keptL l [x] false = l := rises_ext (keptL_rises _ _ _) h fun y => by
  rw [mem_less, List.mem_singleton]
  exact ⟨fun h => h.1, fun hy => ⟨hy, fun e => hx (e ▸ hy)⟩⟩
theorem insL_join {l : List Int} (h : Rises l) {x : Int} (hx : x ∉ l) : insL l x = joinL l [x] := rises_ext (insL_rises h hx) (joinL_rises _ _) fun y => by
  rw [mem_insL, mem_joinL, List.mem_singleton]; exact Or.comm
theorem join_in {l : List Int} (h : Rises l) {x : Int} (hx : x ∈ l) : joinL l [x] = l := rises_ext (joinL_rises _ _) h fun y => by
  rw [mem_joinL, List.mem_singleton]
  exact ⟨fun h => h.elim id (fun e => e ▸ hx), .inl⟩
/-- What Delete leaves. -/
theorem del_at (W : World) (base g g' room c p : Nat) (l : List Int) (w4 : World) (q2 : Nat) (hbx : W.heap[g]? = some (.cells #[.int .i64 (room : Int), .slice (some ⟨g', 0, none⟩) l.length c] 49 (0, 0)))
    (ho : W.ownsRow base 3 1 (.slice (some ⟨g', 0, none⟩) l.length c) l.length (l.map (Value.int .i64))) (hne : g ≠ g') (hp : p + 1 ≤ l.length)
    (hw4 : w4 = putRow (Value.int .i64) (Sort.ahead W q2) g' 0 (l.take p ++ l.drop (p + 1) ++ List.replicate (p + 1 - p) 0).toArray) :
    w4.heap[g]? = some (.cells #[.int .i64 (room : Int), .slice (some ⟨g', 0, none⟩) l.length c] 49 (0, 0)) ∧
    w4.ownsRow base 3 1 (.slice (some ⟨g', 0, none⟩) (l.length - 1) c) (l.length - 1) ((l.take p ++ l.drop (p + 1)).map (Value.int .i64)) ∧ Upd W w4 g (some g') := by
  have hlen : (l.take p ++ l.drop (p + 1)).length = l.length - 1 := by simp; omega
  have h1 : (l.take p ++ l.drop (p + 1) ++ List.replicate (p + 1 - p) (0 : Int)).toArray.size = l.length := by simp; omega
  have h2 := own_put (enc := Value.int .i64) ho q2 (l.take p ++ l.drop (p + 1) ++ List.replicate (p + 1 - p) 0).toArray h1 (l.length - 1) (by omega)
  rw [← hw4, List.toList_toArray, List.take_left' hlen] at h2
  have h3 : ∀ k, k ≠ g' → w4.heap[k]? = W.heap[k]? := fun k hk => by rw [hw4]; exact put_heap _ _ _ _ _ k hk
  refine ⟨(h3 g hne).trans hbx, h2, by rw [hw4]; rfl, by rw [hw4]; rfl, by rw [hw4]; rfl, by rw [hw4, put_size]; exact Nat.le_refl _, fun k hk _ hn => h3 k (fun e => hn (by rw [e]))⟩
def DelPost (W : World) (base g room : Nat) (v : Value) (l : List Int) (x : Int) (e : Ending) (W' : World) : Prop :=
  ∃ v', e = .returned (.int .i64 (if x ∈ l then 0 else 3)) ∧ SetAt W' base g room v' (if x ∈ l then dropL l x else l) ∧ Upd W W' g v.ownBlock ∧ v'.ownBlock = v.ownBlock
set_option maxHeartbeats 4000000 in
set_option maxRecDepth 100000 in
theorem del_calls (W : World) (base g room : Nat) (v : Value) (l : List Int) (x : Int) (h : SetAt W base g room v l) :
    Calls Try.prog 32 #[.pointer (some ⟨g, 0, none⟩), .int .i64 x] W (DelPost W base g room v l x) := by
  have hgl : g < W.heap.size := blk_lt h.box
  have h64 : l.length ≤ 64 := Nat.le_trans h.fits h.room1
  obtain ⟨A, c, hv, hnc, hC⟩ := Kd.R_reads (R_own_int (e := 3) h.row)
  subst hv
  have HG := Aside0.mk (given_calls g room _ W h.box)
  have HS := Aside0.mk h
  have HBs := Aside0.mk (bsearch_calls A c l x W hC h.rises (by omega))
  have hr0 : decide (0 < room) = true := decide_eq_true h.room0
  have r0 : W.cell? ⟨g, 0, none⟩ = some (.int .i64 (room : Int)) := blk_cell h.box 0
  have r1 : W.cell? ⟨g, 1, none⟩ = some (.slice A l.length c) := blk_cell h.box 1
  rw [hr0] at HG
  by_cases hx : x ∈ l
  · have hcx : l.contains x = true := by simpa using hx
    obtain ⟨hk, _⟩ := count_mem h.rises hx
    rw [hcx] at HBs
    have HX := Aside0.mk hx
    have HK := Aside0.mk hk
    obtain ⟨g', cap, e1⟩ : ∃ g' cap, (Value.slice A l.length c) = .slice (some ⟨g', 0, none⟩) l.length cap := by
      rcases h.row.2 with ⟨e1, h2⟩ | ⟨g', cap, cur, e1, _⟩
      · omega
      · exact ⟨g', cap, e1⟩
    injection e1 with e1 _ e2
    subst e1 e2
    have hne : g ≠ g' := fun e => own_ne_box h (by rw [e]; rfl)
    have HD := Aside0.mk (fun q => by
      have hr2 : (W.drewN q).ownsRow base 3 1 (.slice (some ⟨g', 0, none⟩) l.length c) l.length (l.map (Value.int .i64)) := (h.drewN q).row
      obtain ⟨hH, hg, hcap, hl, hbg⟩ := own_holds (enc := Value.int .i64) hr2
      have hm : c ≤ 9223372036854775807 := by
        rcases hr2.2 with ⟨e1, _⟩ | ⟨g2, cap, cur, e1, _, _, _, hcm, _⟩
        · cases e1
        · injection e1 with _ _ e3
          rw [e3]; exact hcm
      exact Try.slices_Delete_int g' 0 c (l.countP (· < x)) (l.countP (· < x) + 1) l (W.drewN q) hH hcap hm (by omega) (by omega))
    have hcp : l.countP (· < x) ≤ 64 := by omega
    have HC := Aside0.mk hcp
    have HU := Aside0.mk (show l.countP (· < x) + 1 ≤ l.length from hk)
    have HDr := Aside0.mk (show dropL l x = l.take (l.countP (· < x)) ++ l.drop (l.countP (· < x) + 1) from rfl)
    generalize hpp : l.countP (· < x) = p at *
    clear h hC hnc hx hcx hk hpp
    go_enter Try.func32, Try.ntmps32
    go_wp2_with (first
      | (go_at_call 47; refine HG.out.mono ?_; rintro e w1 ⟨rfl, rfl⟩)
      | (go_at_call 48; refine HBs.out.mono ?_; rintro e w2 ⟨rfl, q, rfl⟩)
      | (go_at_call 50; refine (HD.out q).mono ?_; rintro e w4 ⟨rfl, q2, hw4⟩; have H4 := Aside0.mk (del_at (W.drewN q) base g g' room c p l w4 q2 (HS.out.drewN q).box (HS.out.drewN q).row hne HU.out hw4); clear hw4; have c1 : w4.cell? ⟨g, 1, none⟩ = some (.slice (some ⟨g', 0, none⟩) l.length c) := blk_cell H4.out.1 1; have f1 : w4.frozen? ⟨g, 1, none⟩ = false := blk_frozen H4.out.1 1))
    go_ret
    obtain ⟨hbx, ho4, hu⟩ := H4.out
    have hg4 := grown_cell w4 g 1 (.slice (some ⟨g', 0, none⟩) (l.length - 1) c)
    have hbx2 := blk_set hbx 1 (.slice (some ⟨g', 0, none⟩) (l.length - 1) c)
    have hx := HX.out
    have hle : (l.take p ++ l.drop (p + 1)).length = l.length - 1 := by have := HU.out; simp; omega
    refine ⟨.slice (some ⟨g', 0, none⟩) (l.length - 1) c, by rw [if_pos hx]; rfl, ?_, ⟨hg4.os.trans hu.os, hg4.tape.trans hu.tape, hg4.output.trans hu.output, Nat.le_trans hu.size hg4.size, fun k hk hkg hn => (hg4.block k (Nat.lt_of_lt_of_le hk hu.size) (fun e => hkg (Option.some.inj e))).trans (hu.block k hk hkg hn)⟩, rfl⟩
    rw [if_pos hx]
    refine ⟨hbx2, ?_, dropL_rises HS.out.rises x, ?_, HS.out.room0, HS.out.room1⟩
    · rw [HDr.out, hle]
      exact own_other ho4 hg4 (.inr fun e => hne (Option.some.inj e).symm)
    · rw [HDr.out, hle]
      have := HS.out.fits
      omega
  · have hcx : l.contains x = false := by simpa using hx
    rw [hcx] at HBs
    have HX := Aside0.mk hx
    clear h hC hnc hx hcx
    go_enter Try.func32, Try.ntmps32
    go_wp2_with (first
      | (go_at_call 47; refine HG.out.mono ?_; rintro e w1 ⟨rfl, rfl⟩)
      | (go_at_call 48; refine HBs.out.mono ?_; rintro e w2 ⟨rfl, q, rfl⟩))
    go_ret
    refine ⟨_, by rw [if_neg HX.out]; rfl, ?_, upd_drewN W q g _, rfl⟩
    rw [if_neg HX.out]
    exact HS.out.drewN q
set_option maxHeartbeats 4000000 in
set_option maxRecDepth 100000 in
theorem hasM_calls (W : World) (base g room : Nat) (v : Value) (l : List Int) (x : Int) (h : SetAt W base g room v l) :
    Calls Try.prog 36 #[.pointer (some ⟨g, 0, none⟩), .int .i64 x] W fun e W' => e = .returned (.bool (decide (x ∈ l))) ∧ W = W' := by
  have h64 : l.length ≤ 64 := Nat.le_trans h.fits h.room1
  obtain ⟨A, c, hv, hnc, hC⟩ := Kd.R_reads (R_own_int (e := 3) h.row)
  subst hv
  have HG := Aside0.mk (given_calls g room _ W h.box)
  have hr0 : decide (0 < room) = true := decide_eq_true h.room0
  have r1 : W.cell? ⟨g, 1, none⟩ = some (.slice A l.length c) := blk_cell h.box 1
  rw [hr0] at HG
  have HH := Aside0.mk (has_calls A c l x (l.contains x) W hC (if_pos (by omega)))
  have hd : l.contains x = decide (x ∈ l) := by rw [Bool.eq_iff_iff]; simp
  rw [hd] at HH
  clear h hC hnc hd
  generalize decide (x ∈ l) = d at *
  go_enter Try.func36, Try.ntmps36
  go_wp2_with (first
    | (go_at_call 47; refine HG.out.mono ?_; rintro e w1 ⟨rfl, rfl⟩)
    | (go_at_call 20; refine HH.out.mono ?_; rintro e w2 ⟨rfl, hw⟩; obtain rfl := hw.symm; clear hw))
  all_goals go_ret
  all_goals exact ⟨rfl, rfl⟩
set_option maxHeartbeats 4000000 in
set_option maxRecDepth 100000 in
theorem len_calls (W : World) (base g room : Nat) (v : Value) (l : List Int) (h : SetAt W base g room v l) :
    Calls Try.prog 35 #[.pointer (some ⟨g, 0, none⟩)] W fun e W' => e = .returned (.int .i64 (l.length : Int)) ∧ W = W' := by
  obtain ⟨A, c, hv, hnc, hC⟩ := Kd.R_reads (R_own_int (e := 3) h.row)
  subst hv
  have HG := Aside0.mk (given_calls g room _ W h.box)
  have hr0 : decide (0 < room) = true := decide_eq_true h.room0
  have r1 : W.cell? ⟨g, 1, none⟩ = some (.slice A l.length c) := blk_cell h.box 1
  rw [hr0] at HG
  clear h hC hnc
  go_enter Try.func35, Try.ntmps35
  go_wp2_with (go_at_call 47; refine HG.out.mono ?_; rintro e w1 ⟨rfl, rfl⟩)
  go_ret
  exact ⟨rfl, rfl⟩
theorem clone_calls (A : Option Addr) (c : Nat) (l : List Int) (W : World) (hC : Kd.C (Kd.int .i64) W A l.length l) (hb : l.length * 8 ≤ 140737488355328) :
    Calls Try.prog 39 #[.slice A l.length c] W (SlicePost W l) := by
  by_cases hp : 0 < l.length
  · obtain ⟨b, o, rfl, hbw, hcells⟩ := ints_at hC hp
    have hcl := Try.slices_Clone_int b o l.length c l W (Nat.le_refl _) hb hcells
    rw [List.take_length] at hcl
    refine hcl.mono ?_
    rintro e w1 ⟨v1, he, ho, _, hb1⟩
    exact ⟨v1, he, R_own_int ho, hb1⟩
  · obtain rfl : l = [] := List.eq_nil_of_length_eq_zero (by omega)
    cases A with
    | none => exact (Try.slices_Clone_int_nil 0 c W).mono fun e w' ⟨he, hw⟩ => ⟨_, he, by rw [hw]; exact Kd.R_nil _ _ _ _ _, by rw [hw]; exact Below.refl _ _⟩
    | some a =>
      refine (Try.slices_Clone_int_zero a c W).mono ?_
      rintro e w' ⟨v, he, ho, _, hb⟩
      exact ⟨v, he, R_own_int (l := []) ho, hb⟩
set_option maxHeartbeats 4000000 in
set_option maxRecDepth 100000 in
theorem list_calls (W : World) (base g room : Nat) (v : Value) (l : List Int) (h : SetAt W base g room v l) :
    Calls Try.prog 34 #[.pointer (some ⟨g, 0, none⟩)] W (SlicePost W l) := by
  have h64 : l.length ≤ 64 := Nat.le_trans h.fits h.room1
  obtain ⟨A, c, hv, hnc, hC⟩ := Kd.R_reads (R_own_int (e := 3) h.row)
  subst hv
  have HG := Aside0.mk (given_calls g room _ W h.box)
  have hr0 : decide (0 < room) = true := decide_eq_true h.room0
  have r1 : W.cell? ⟨g, 1, none⟩ = some (.slice A l.length c) := blk_cell h.box 1
  rw [hr0] at HG
  have HC := Aside0.mk (clone_calls A c l W hC (by omega))
  clear h hC hnc h64
  go_enter Try.func34, Try.ntmps34
  go_wp2_with (first
    | (go_at_call 47; refine HG.out.mono ?_; rintro e w1 ⟨rfl, rfl⟩)
    | (go_at_call 39; refine HC.out.mono ?_; rintro e w2 ⟨v2, rfl, hR, hb⟩; have HR := Aside0.mk hR; have HB := Aside0.mk hb; clear hR hb))
  go_ret
  exact ⟨_, rfl, HR.out, HB.out⟩
def CopyPost (W : World) (room : Nat) (l : List Int) (e : Ending) (W' : World) : Prop :=
  ∃ gc vc, e = .returned (.pointer (some ⟨gc, 0, none⟩)) ∧ SetAt W' W.heap.size gc room vc l ∧ W.heap.size ≤ gc ∧ Below W.heap.size W W'
set_option maxHeartbeats 4000000 in
set_option maxRecDepth 100000 in
theorem copy_calls (W : World) (base g room : Nat) (v : Value) (l : List Int) (h : SetAt W base g room v l) :
    Calls Try.prog 33 #[.pointer (some ⟨g, 0, none⟩)] W (CopyPost W room l) := by
  have h64 : l.length ≤ 64 := Nat.le_trans h.fits h.room1
  obtain ⟨A, c, hv, hnc, hC⟩ := Kd.R_reads (R_own_int (e := 3) h.row)
  subst hv
  have HS := Aside0.mk h
  have hgl : g < W.heap.size := blk_lt h.box
  have HG := Aside0.mk (given_calls g room _ W h.box)
  have hr0 : decide (0 < room) = true := decide_eq_true h.room0
  have r0 : W.cell? ⟨g, 0, none⟩ = some (.int .i64 (room : Int)) := blk_cell h.box 0
  have r1 : W.cell? ⟨g, 1, none⟩ = some (.slice A l.length c) := blk_cell h.box 1
  rw [hr0] at HG
  have HC := Aside0.mk (fun W1 (hC : Kd.C (Kd.int .i64) W1 A l.length l) => clone_calls A c l W1 hC (by omega))
  have HR0 := Aside0.mk hC
  clear h hC hnc h64
  go_enter Try.func33, Try.ntmps33
  go_wp2_with (go_at_call 47; refine HG.out.mono ?_; rintro e w1 ⟨rfl, rfl⟩)
  refine start_ (n := 12) (S := fun w' => w'.cell? ⟨g, 0, none⟩ = some (.int .i64 (room : Int)) ∧ w'.cell? ⟨g, 1, none⟩ = some (.slice A l.length c)) (ds := [10]) #[false, false, false, false, false, false, false, false, false, false, false, false] (by kernel_rfl) rfl rfl ⟨r0, r1⟩ (fun hHeld => ?_)
  refine pure_ (i := 0) (N := some 6) (v := ?_) (a' := ?_) #[true, false, false, false, false, false, false, false, false, false, false, false] rfl rfl (by kernel_rfl) (fun _ _ _ h => h) (Or.inl ⟨by rfl, ?_⟩) ?_ ?_
  rotate_left
  · intro w'
    go_simp
    with_reducible rfl
  rotate_left
  · simp only [Act.put, List.setIfInBounds_toArray, List.set_cons_zero, List.set_cons_succ, i64_w, i32_w]
    rfl
  refine pure_ (i := 1) (N := some 7) (v := ?_) (a' := ?_) #[true, true, false, false, false, false, false, false, false, false, false, false] rfl rfl (by kernel_rfl) (fun _ _ _ h => h) (Or.inl ⟨by rfl, ?_⟩) ?_ ?_
  rotate_left
  · intro w'
    go_simp
    with_reducible rfl
  rotate_left
  · simp only [Act.put, List.setIfInBounds_toArray, List.set_cons_zero, List.set_cons_succ, i64_w, i32_w]
    rfl
  refine pure_ (i := 2) (N := some 8) (v := ?_) (a' := ?_) #[true, true, true, false, false, false, false, false, false, false, false, false] rfl rfl (by kernel_rfl) (fun _ _ _ h => h) (Or.inl ⟨by rfl, ?_⟩) ?_ ?_
  rotate_left
  · intro w'
    go_simp
    with_reducible rfl
  rotate_left
  · simp only [Act.put, List.setIfInBounds_toArray, List.set_cons_zero, List.set_cons_succ, i64_w, i32_w]
    rfl
  refine pure_ (i := 4) (N := some 10) (v := ?_) (a' := ?_) #[true, true, true, false, true, false, false, false, false, false, false, false] rfl rfl (by kernel_rfl) (fun _ _ _ h => h) (Or.inl ⟨by rfl, ?_⟩) ?_ ?_
  rotate_left
  · intro w'
    go_simp
    with_reducible rfl
  rotate_left
  · simp only [Act.put, List.setIfInBounds_toArray, List.set_cons_zero, List.set_cons_succ, i64_w, i32_w]
    rfl
  refine pure_ (i := 5) (N := some 11) (v := ?_) (a' := ?_) #[true, true, true, false, true, true, false, false, false, false, false, false] rfl rfl (by kernel_rfl) (fun _ _ _ h => h) (Or.inl ⟨by rfl, ?_⟩) ?_ ?_
  rotate_left
  · intro w'
    go_simp
    with_reducible rfl
  rotate_left
  · simp only [Act.put, List.setIfInBounds_toArray, List.set_cons_zero, List.set_cons_succ, i64_w, i32_w]
    rfl
  refine pure_ (i := 6) (N := some 12) (v := ?_) (a' := ?_) #[true, true, true, false, true, true, true, false, false, false, false, false] rfl rfl (by kernel_rfl) (fun _ _ _ h => h) (Or.inl ⟨by rfl, ?_⟩) ?_ ?_
  rotate_left
  · intro w'
    go_simp
    with_reducible rfl
  rotate_left
  · simp only [Act.put, List.setIfInBounds_toArray, List.set_cons_zero, List.set_cons_succ, i64_w, i32_w]
    rfl
  refine take_ (i := 3) (N := some 9) (v := ?_) (a' := ?_) #[true, true, true, true, true, true, true, false, false, false, false, false] rfl rfl (by kernel_rfl) (fun _ _ _ h => h) (Or.inl ⟨by rfl, ?_⟩) hHeld ?_ ?_
  rotate_left
  · rintro w' ⟨s0, s1⟩
    go_simp
    with_reducible rfl
  rotate_left
  · simp only [Act.put, List.setIfInBounds_toArray, List.set_cons_zero, List.set_cons_succ, i64_w, i32_w]
    rfl
  refine take_ (i := 7) (N := some 13) (v := ?_) (a' := ?_) #[true, true, true, true, true, true, true, true, false, false, false, false] rfl rfl (by kernel_rfl) (fun _ _ _ h => h) (Or.inl ⟨by rfl, ?_⟩) hHeld ?_ ?_
  rotate_left
  · rintro w' ⟨s0, s1⟩
    go_simp
    with_reducible rfl
  rotate_left
  · simp only [Act.put, List.setIfInBounds_toArray, List.set_cons_zero, List.set_cons_succ, i64_w, i32_w]
    rfl
  refine one_ (i := 8) (N := some 14) #[true, true, true, true, true, true, true, true, true, false, false, false] rfl rfl (by kernel_rfl) (by decide) (fun K hK => ?_)
  refine goes_ Try.func39 (by kernel_rfl) rfl #[.slice A l.length c] (by rfl) rfl rfl (by simp only [List.map_toArray, List.map_cons, List.map_nil]; rfl) ?_
  with_reducible refine (HC.out W.drew (Kd.C_drew HR0.out)).mono ?_
  rintro e w3 ⟨v3, rfl, hR, hb⟩
  refine ⟨_, rfl, ?_⟩
  obtain ⟨A3, c3, e3⟩ := Kd.R_slice hR
  subst e3
  have HR := Aside0.mk hR
  have HB := Aside0.mk hb
  clear hR hb
  refine hK.out _ _ ⟨(HB.out.cell (p := ⟨g, 0, none⟩) hgl).trans r0, (HB.out.cell (p := ⟨g, 1, none⟩) hgl).trans r1⟩ (fun hHeld => ?_)
  clear hK K
  refine norm_ (a' := ?_) ?_ ?_
  rotate_left
  · show Act.put _ (some 14) _ = _
    simp only [Act.put, List.setIfInBounds_toArray, List.set_cons_zero, List.set_cons_succ, i64_w, i32_w]
    rfl
  refine pure_ (i := 9) (N := some 15) (v := ?_) (a' := ?_) #[true, true, true, true, true, true, true, true, true, true, false, false] rfl rfl (by kernel_rfl) (fun _ _ _ h => h) (Or.inl ⟨by rfl, ?_⟩) ?_ ?_
  rotate_left
  · intro w'
    go_simp
    with_reducible rfl
  rotate_left
  · simp only [Act.put, List.setIfInBounds_toArray, List.set_cons_zero, List.set_cons_succ, i64_w, i32_w]
    rfl
  refine last_ (i := 10) (N := some 16) #[true, true, true, true, true, true, true, true, true, true, true, false] rfl rfl (by kernel_rfl) (by decide) (fun K hK => ?_)
  refine value_ (w1 := ?_) (v := ?_) (by rfl) rfl ?_ ?_
  rotate_left 2
  · go_simp
    constructor
    · rfl
    · rfl
  refine hK.out _ _ ?_
  clear hK K
  refine norm_ (a' := ?_) ?_ ?_
  rotate_left
  · show Act.put _ (some 16) _ = _
    simp only [Act.put, List.setIfInBounds_toArray, List.set_cons_zero, List.set_cons_succ, i64_w, i32_w]
    rfl
  refine pure_ (i := 11) (N := some 2) (v := ?_) (a' := ?_) #[true, true, true, true, true, true, true, true, true, true, true, true] rfl rfl (by kernel_rfl) (fun _ _ _ h => h) (Or.inl ⟨by rfl, ?_⟩) ?_ ?_
  rotate_left
  · intro w'
    go_simp
    with_reducible rfl
  rotate_left
  · simp only [Act.put, List.setIfInBounds_toArray, List.set_cons_zero, List.set_cons_succ, i64_w, i32_w]
    rfl
  refine done_ (by kernel_rfl) ?_

  go_wp2
  go_ret
  have hb2 : Below W.heap.size W w3 := below_step (W := W.drew) (below_drew (Below.refl W.heap.size W)) HB.out
  have hs := HS.out
  refine ⟨w3.heap.size, _, rfl, ⟨heap_alloc_new w3 _, pw_own_below (Kd.own_of_R HR.out) (below_alloc (Below.refl _ _) _), hs.rises, hs.fits, hs.room0, hs.room1⟩, hb2.size, below_alloc hb2 _⟩
end Go.Proofs.Ytpidbaaojgdpmaa.SetW
