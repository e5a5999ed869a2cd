/- uri.Form's function literal by hand: a part of a form is read behind the pairs that came. -/
import Derived.Test.YtkaacdfikaggfaaUriDe
import Derived.Test.YtkaacdfikaggfaaUriCut
import Derived.Test.YtkaacdfikaggfaaVars
namespace Go.Proofs.Ytkaacdfikaggfaa.UriD
open Go.RowKit Go.Proofs.YtkaacdfikaggfaaW.PrintWords Go.Proofs.YtkaacdfikaggfaaW.PrintLast Go.Proofs.YtkaacdfikaggfaaW.PrintMore Go.Proofs.Ytkaacdfikaggfaa.Bs Go.Proofs.Ytkaacdfikaggfaa.UriF Go.Proofs.Ytkaacdfikaggfaa.Vars
set_option linter.unusedVariables false
set_option linter.unusedSimpArgs false

abbrev FSt := List (ByteArray × ByteArray) × Int × Int
abbrev pk : Kd (ByteArray × ByteArray) := Kd.pair Kd.string Kd.string
def formStep (st : FSt) (p : ByteArray) (at_ : Int) : FSt × Bool :=
  if p.size = 0 then (st, true)
  else if (decodeR (cutR 61 p).1 true).2.1 ≠ 0 then ((st.1, (decodeR (cutR 61 p).1 true).2.1, at_ + (decodeR (cutR 61 p).1 true).2.2), false)
  else if (decodeR (cutR 61 p).2.1 true).2.1 ≠ 0 then ((st.1, (decodeR (cutR 61 p).2.1 true).2.1, at_ + (cutR 61 p).1.size + 1 + (decodeR (cutR 61 p).2.1 true).2.2), false)
  else ((st.1 ++ [((decodeR (cutR 61 p).1 true).1, (decodeR (cutR 61 p).2.1 true).1)], 0, st.2.2), true)

/-- Form's three variables. -/
structure FEnv (w0 : World) (b : Nat) (st : FSt) (W : World) : Prop where
  out : ∃ v, Var W w0.heap.size 28 v ∧ Kd.R pk 52 W w0.heap.size (fun k => w0.heap.size + 3 ≤ k ∧ k < b) v st.1
  err : Var W (w0.heap.size + 1) 22 (.int .i64 st.2.1)
  plc : Var W (w0.heap.size + 1 + 1) 3 (.int .i64 st.2.2)
  bel : Below w0.heap.size w0 W
section
variable {w0 W W' : World} {b : Nat} {st : FSt}
theorem FEnv.below (h : FEnv w0 b st W) (hb : Below W.heap.size W W') : FEnv w0 b st W' := by
  obtain ⟨v, h1, h2⟩ := h.out
  exact ⟨⟨v, h1.below hb, Kd.R_below h2 hb⟩, h.err.below hb, h.plc.below hb, below_step h.bel hb⟩
theorem FEnv.setE (h : FEnv w0 b st W) (x : Int) : FEnv w0 b (st.1, x, st.2.2) (W.setCell ⟨w0.heap.size + 1, 0, none⟩ (.int .i64 x)) := by
  obtain ⟨v, h1, h2⟩ := h.out
  exact ⟨⟨v, h1.other (by omega) _ _, Kd.R_far h2 (p := ⟨w0.heap.size + 1, 0, none⟩) (fun k hk => by have := hk.1; show k ≠ w0.heap.size + 1; omega) _⟩, h.err.set _, h.plc.other (by omega) _ _, h.bel.setCell (by simp) _⟩
theorem FEnv.setP (h : FEnv w0 b st W) (x : Int) : FEnv w0 b (st.1, st.2.1, x) (W.setCell ⟨w0.heap.size + 1 + 1, 0, none⟩ (.int .i64 x)) := by
  obtain ⟨v, h1, h2⟩ := h.out
  exact ⟨⟨v, h1.other (by omega) _ _, Kd.R_far h2 (p := ⟨w0.heap.size + 1 + 1, 0, none⟩) (fun k hk => by have := hk.1; show k ≠ w0.heap.size + 1 + 1; omega) _⟩, h.err.other (by omega) _ _, h.plc.set _, h.bel.setCell (by simp; omega) _⟩
theorem FEnv.far (h : FEnv w0 b st W) (g : Nat) (hg : b ≤ g) (hb : w0.heap.size + 3 ≤ b) (i : Nat) (x : Value) : FEnv w0 b st (W.setCell ⟨g, i, none⟩ x) := by
  obtain ⟨v, h1, h2⟩ := h.out
  exact ⟨⟨v, h1.other (by omega) _ _, Kd.R_far h2 (p := ⟨g, i, none⟩) (fun k hk => by have := hk.2; show k ≠ g; omega) _⟩, h.err.other (by omega) _ _, h.plc.other (by omega) _ _, h.bel.setCell (by simp; omega) _⟩
theorem FEnv.lt (h : FEnv w0 b st W) : w0.heap.size + 3 ≤ W.heap.size := by have := h.plc.lt; omega
theorem FEnv.wide (h : FEnv w0 b st W) : FEnv w0 W.heap.size st W := by
  obtain ⟨v, h1, h2⟩ := h.out
  exact ⟨⟨v, h1, Kd.R_mono (Kd.R_bound h2) (fun k hk => ⟨hk.1.1, hk.2.2.1⟩)⟩, h.err, h.plc, h.bel⟩
theorem FEnv.drew (h : FEnv w0 b st W) : FEnv w0 b st W.drew := h.below (below_drew1 (Below.refl _ _))
theorem FEnv.drewN (h : FEnv w0 b st W) (n : Nat) : FEnv w0 b st (W.drewN n) := h.below (pw_below_drewN (Below.refl _ _) n)
theorem FEnv.alloc (h : FEnv w0 b st W) (o : Obj) : FEnv w0 b st (W.alloc o) := h.below (below_alloc (Below.refl _ _) o)
def Pairbox (W : World) (B : Nat) (n v : ByteArray) : Prop := W.heap[B]? = some (.cells #[.string n, .string v] 52 (0, 0))
theorem FEnv.cells (h : FEnv w0 b st W) {B : Nat} {n v : ByteArray} (hx : Pairbox W B n v) (hb : b ≤ B) (h3 : w0.heap.size + 3 ≤ b) :
    W.cell? ⟨B, 0, none⟩ = some (.string n) ∧ W.cell? ⟨B, 1, none⟩ = some (.string v) ∧ W.frozen? ⟨B, 0, none⟩ = false ∧ W.frozen? ⟨B, 1, none⟩ = false ∧
    W.cell? ⟨w0.heap.size + 1, 0, none⟩ = some (.int .i64 st.2.1) ∧ W.frozen? ⟨w0.heap.size + 1, 0, none⟩ = false ∧ W.cell? ⟨w0.heap.size + 1 + 1, 0, none⟩ = some (.int .i64 st.2.2) ∧ W.frozen? ⟨w0.heap.size + 1 + 1, 0, none⟩ = false ∧
    (B = w0.heap.size + 1) = False ∧ (w0.heap.size + 1 = B) = False ∧ (B = w0.heap.size + 1 + 1) = False ∧ (w0.heap.size + 1 + 1 = B) = False ∧ (B = w0.heap.size) = False ∧ (w0.heap.size = B) = False := by
  unfold Pairbox at hx
  exact ⟨by simp [World.cell?, hx], by simp [World.cell?, hx], by simp [World.frozen?, hx], by simp [World.frozen?, hx], h.err.cell, h.err.free, h.plc.cell, h.plc.free, eq_false (by omega), eq_false (by omega), eq_false (by omega), eq_false (by omega), eq_false (by omega), eq_false (by omega)⟩
theorem box_new (h : Below ((W.alloc (.cells #[.string ⟨#[]⟩, .string ⟨#[]⟩] 52)).heap.size) (W.alloc (.cells #[.string ⟨#[]⟩, .string ⟨#[]⟩] 52)) W') : Pairbox W' W.heap.size ⟨#[]⟩ ⟨#[]⟩ :=
  (h.block W.heap.size (by simp)).trans (Go.heap_alloc_new W _)
theorem box_below {B : Nat} {n v : ByteArray} (hx : Pairbox W B n v) (h : Below W.heap.size W W') : Pairbox W' B n v := (h.block B (lt_of_block hx)).trans hx
theorem box_other {B : Nat} {n v : ByteArray} (hx : Pairbox W B n v) (g i : Nat) (u : Value) (hne : B ≠ g) : Pairbox (W.setCell ⟨g, i, none⟩ u) B n v := by
  unfold Pairbox at *
  rw [Below.heap_setCell W _ u B hne]; exact hx
theorem box_set0 {B : Nat} {n v : ByteArray} (hx : Pairbox W B n v) (u : ByteArray) : Pairbox (W.setCell ⟨B, 0, none⟩ (.string u)) B u v := by
  unfold Pairbox at *
  simp only [World.setCell]
  rw [Array.getElem?_modify]; simp [hx]
theorem box_set1 {B : Nat} {n v : ByteArray} (hx : Pairbox W B n v) (u : ByteArray) : Pairbox (W.setCell ⟨B, 1, none⟩ (.string u)) B n u := by
  unfold Pairbox at *
  simp only [World.setCell]
  rw [Array.getElem?_modify]; simp [hx]
/-- Behind the second call: the box holds the name; the error is told as none. -/
theorem FEnv.second (h : FEnv w0 b st W) {B : Nat} (hx : Pairbox W B ⟨#[]⟩ ⟨#[]⟩) (hb : b ≤ B) (h3 : w0.heap.size + 3 ≤ b) (n : ByteArray)
    (hb2 : Below ((W.setCell ⟨B, 0, none⟩ (.string n)).setCell ⟨w0.heap.size + 1, 0, none⟩ (.int .i64 0)).heap.size ((W.setCell ⟨B, 0, none⟩ (.string n)).setCell ⟨w0.heap.size + 1, 0, none⟩ (.int .i64 0)) W') :
    FEnv w0 b (st.1, 0, st.2.2) W' ∧ Pairbox W' B n ⟨#[]⟩ :=
  ⟨((h.far B hb h3 0 (.string n)).setE 0).below hb2, box_below (box_other (box_set0 hx n) _ _ _ (by omega)) hb2⟩
/-- Behind both calls: ahead of the append. -/
theorem FEnv.third (h : FEnv w0 b st W) {B : Nat} {n : ByteArray} (hx : Pairbox W B n ⟨#[]⟩) (hb : b ≤ B) (h3 : w0.heap.size + 3 ≤ b) (n2 : ByteArray) :
    FEnv w0 b (st.1, 0, st.2.2) ((W.setCell ⟨B, 1, none⟩ (.string n2)).setCell ⟨w0.heap.size + 1, 0, none⟩ (.int .i64 0)) ∧ Pairbox ((W.setCell ⟨B, 1, none⟩ (.string n2)).setCell ⟨w0.heap.size + 1, 0, none⟩ (.int .i64 0)) B n n2 :=
  ⟨(h.far B hb h3 1 (.string n2)).setE 0, box_other (box_set1 hx n2) _ _ _ (by omega)⟩
theorem FEnv.appended {w5 : World} {v v1 : Value} {xs : List (ByteArray × ByteArray)} (h : FEnv w0 b st W) (hv : Var W w0.heap.size 28 v) (hr : Kd.R pk 52 W w0.heap.size (fun k => w0.heap.size + 3 ≤ k) v st.1)
    (ho : Kd.R pk 52 w5 w0.heap.size (fun k => w0.heap.size + 3 ≤ k) v1 xs) (hb : Below w0.heap.size w0 w5) (hg : W.grownBy w5 v.ownBlock) :
    Var w5 w0.heap.size 28 v ∧ FEnv w0 (w5.setCell ⟨w0.heap.size, 0, none⟩ v1).heap.size (xs, st.2) (w5.setCell ⟨w0.heap.size, 0, none⟩ v1) := by
  have hne : ∀ g, g < w0.heap.size + 3 → some g ≠ v.ownBlock := fun g hg2 e => by have := hr.1 g e.symm; omega
  have k0 : Var w5 w0.heap.size 28 v := (hg.block _ hv.lt (hne _ (by omega))).trans hv
  have k1 : Var w5 (w0.heap.size + 1) 22 (.int .i64 st.2.1) := (hg.block _ h.err.lt (hne _ (by omega))).trans h.err
  have k2 : Var w5 (w0.heap.size + 1 + 1) 3 (.int .i64 st.2.2) := (hg.block _ h.plc.lt (hne _ (by omega))).trans h.plc
  refine ⟨k0, FEnv.wide (b := w5.heap.size) ⟨⟨v1, k0.set _, Kd.R_far (Kd.R_mono (Kd.R_bound ho) (fun k hk => ⟨hk.1, hk.2.2.1⟩)) (p := ⟨w0.heap.size, 0, none⟩) (fun k hk => by have := hk.1; show k ≠ w0.heap.size; omega) _⟩, k1.other (by omega) _ _, k2.other (by omega) _ _, hb.setCell (by simp) _⟩⟩
theorem FEnv.outs (h : FEnv w0 b st W) : ∃ v, Var W w0.heap.size 28 v ∧ Kd.R pk 52 W w0.heap.size (fun k => w0.heap.size + 3 ≤ k) v st.1 := by
  obtain ⟨v, h1, h2⟩ := h.out
  exact ⟨v, h1, Kd.R_mono h2 (fun k hk => hk.1)⟩
end
theorem infoP : (Try.prog.info? 52).map (fun i => (i.zero, i.size, i.bytes)) = some (some (.agg #[.string ⟨#[]⟩, .string ⟨#[]⟩]), pk.sz, 32) := by kernel_rfl

set_option maxHeartbeats 8000000 in
set_option maxRecDepth 100000 in
theorem form1_empty (w0 : World) (st : FSt) (at_ : Int) (W : World) (HE : FEnv w0 W.heap.size st W) :
    Calls Try.prog 27 #[.string ⟨#[]⟩, .int .i64 at_, .pointer (some ⟨w0.heap.size + 1, 0, none⟩), .pointer (some ⟨w0.heap.size + 1 + 1, 0, none⟩), .pointer (some ⟨w0.heap.size, 0, none⟩)] W fun e W' =>
      e = .returned (.bool true) ∧ FEnv w0 W'.heap.size st W' := by
  go_enter Try.func27, Try.ntmps27
  go_wp2
  go_ret
  exact ⟨rfl, HE⟩

set_option maxHeartbeats 8000000 in
set_option maxRecDepth 100000 in
theorem form1_name (w0 : World) (st : FSt) (p : ByteArray) (at_ : Int) (hp : p.size ≤ 140737488351232) (hp0 : p.size ≠ 0) (h0 : 0 ≤ at_) (h1 : at_ ≤ 140737488351232) (W : World) (HE : FEnv w0 W.heap.size st W)
    (n : ByteArray) (x y : Int) (hd : decodeR (cutR 61 p).1 true = (n, x, y)) (hx : x ≠ 0) :
    Calls Try.prog 27 #[.string p, .int .i64 at_, .pointer (some ⟨w0.heap.size + 1, 0, none⟩), .pointer (some ⟨w0.heap.size + 1 + 1, 0, none⟩), .pointer (some ⟨w0.heap.size, 0, none⟩)] W fun e W' =>
      e = .returned (.bool false) ∧ FEnv w0 W'.heap.size (st.1, x, at_ + y) W' := by
  have HE0 := Aside0.mk HE
  have e1 : p.toList.isEmpty = false := by
    cases h : p.toList.isEmpty with
    | false => rfl
    | true => rw [List.isEmpty_iff, ByteArray.toList_eq] at h; exact absurd (by rw [← data_length, h]; rfl) hp0
  have hs := cutR_sizes 61 p
  have hy := decodeR_pos (cutR 61 p).1 true
  rw [hd] at hy
  have hy0 : 0 ≤ y := hy.1
  have hy1 : y ≤ 140737488351232 := by have := hy.2; simp only at this; omega
  have hdc := fun W => decode_calls (cutR 61 p).1 true W (by omega)
  rw [hd] at hdc
  have HD := Aside0.mk hdc
  have HC := Aside0.mk (fun W => cut_calls p 61 hp W)
  have x0 : (x != 0) = true := by simpa using hx
  have x1 : (x == 0) = false := by simpa using hx
  clear hdc hd hs hy hp HE
  go_enter Try.func27, Try.ntmps27
  go_wp2_with (first | (go_at_call 28; refine (HC.out _).mono ?_; rintro e w1 ⟨rfl, ⟨⟨nd, rfl⟩⟩⟩) | (go_at_call 8; refine (HD.out _).mono ?_; rintro e w2 ⟨rfl, hb⟩; have HX2 : Aside0 (Pairbox w2 W.heap.size ⟨#[]⟩ ⟨#[]⟩) := ⟨box_new (W := W.drewN nd) hb⟩; have HE2 := Aside0.mk (((HE0.out.drewN nd).alloc _).below hb); obtain ⟨cX0, cX1, fX0, fX1, cE, fE, cP, fP, n1, n2, n3, n4, n5, n6⟩ := HE2.out.cells HX2.out (Nat.le_refl _) HE0.out.lt; clear hb))
  go_ret
  have hE := (((HE2.out.far W.heap.size (Nat.le_refl _) HE0.out.lt 0 (.string n)).setE x).setP (at_ + y)).wide
  exact ⟨rfl, hE⟩

set_option maxHeartbeats 8000000 in
set_option maxRecDepth 100000 in
theorem form1_value (w0 : World) (st : FSt) (p : ByteArray) (at_ : Int) (hp : p.size ≤ 140737488351232) (hp0 : p.size ≠ 0) (h0 : 0 ≤ at_) (h1 : at_ ≤ 140737488351232) (W : World) (HE : FEnv w0 W.heap.size st W)
    (n : ByteArray) (y : Int) (hd : decodeR (cutR 61 p).1 true = (n, 0, y)) (n2 : ByteArray) (x y2 : Int) (hd2 : decodeR (cutR 61 p).2.1 true = (n2, x, y2)) (hx : x ≠ 0) :
    Calls Try.prog 27 #[.string p, .int .i64 at_, .pointer (some ⟨w0.heap.size + 1, 0, none⟩), .pointer (some ⟨w0.heap.size + 1 + 1, 0, none⟩), .pointer (some ⟨w0.heap.size, 0, none⟩)] W fun e W' =>
      e = .returned (.bool false) ∧ FEnv w0 W'.heap.size (st.1, x, at_ + (cutR 61 p).1.size + 1 + y2) W' := by
  have HE0 := Aside0.mk HE
  have e1 : p.toList.isEmpty = false := by
    cases h : p.toList.isEmpty with
    | false => rfl
    | true => rw [List.isEmpty_iff, ByteArray.toList_eq] at h; exact absurd (by rw [← data_length, h]; rfl) hp0
  have hs := cutR_sizes 61 p
  have hy := decodeR_pos (cutR 61 p).2.1 true
  rw [hd2] at hy
  have hy0 : 0 ≤ y2 := hy.1
  have hy1 : y2 ≤ 140737488351232 := by have := hy.2; simp only at this; omega
  have hz1 : ((cutR 61 p).1.size : Int) ≤ 140737488351232 := by omega
  have hdc := fun W => decode_calls (cutR 61 p).1 true W (by omega)
  rw [hd] at hdc
  have HD := Aside0.mk hdc
  have hdc2 := fun W => decode_calls (cutR 61 p).2.1 true W (by omega)
  rw [hd2] at hdc2
  have HD2 := Aside0.mk hdc2
  have HC := Aside0.mk (fun W => cut_calls p 61 hp W)
  have x0 : (x != 0) = true := by simpa using hx
  have x1 : (x == 0) = false := by simpa using hx
  clear hdc hdc2 hd hd2 hs hy hp HE
  go_enter Try.func27, Try.ntmps27
  go_wp2_with (first | (go_at_call 28; refine (HC.out _).mono ?_; rintro e w1 ⟨rfl, ⟨⟨nd, rfl⟩⟩⟩) | (go_at_call 8; ((with_reducible refine (HD.out _).mono ?_); rintro e w2 ⟨rfl, hb⟩; have HX2 : Aside0 (Pairbox w2 W.heap.size ⟨#[]⟩ ⟨#[]⟩) := ⟨box_new (W := W.drewN nd) hb⟩; have HE2 := Aside0.mk (((HE0.out.drewN nd).alloc _).below hb); obtain ⟨cX0, cX1, fX0, fX1, cE, fE, cP, fP, n1, n2_, n3, n4, n5, n6⟩ := HE2.out.cells HX2.out (Nat.le_refl _) HE0.out.lt; clear hb)) | (go_at_call 8; ((with_reducible refine (HD2.out _).mono ?_); rintro e w4 ⟨rfl, hb⟩; obtain ⟨hE4, hX4⟩ := HE2.out.second HX2.out (Nat.le_refl _) HE0.out.lt n hb; have HX4 := Aside0.mk hX4; have HE4 := Aside0.mk hE4; clear hb hE4 hX4 cX0 cX1 fX0 fX1 cE fE cP fP n1 n2_ n3 n4 n5 n6 HE2 HX2; obtain ⟨cX0, cX1, fX0, fX1, cE, fE, cP, fP, n1, n2_, n3, n4, n5, n6⟩ := HE4.out.cells HX4.out (Nat.le_refl _) HE0.out.lt)))
  go_ret
  have hE := (((HE4.out.far W.heap.size (Nat.le_refl _) HE0.out.lt 1 (.string n2)).setE x).setP (at_ + (cutR 61 p).1.size + 1 + y2)).wide
  exact ⟨rfl, hE⟩
set_option maxHeartbeats 8000000 in
set_option maxRecDepth 100000 in
theorem form1_ok (w0 : World) (st : FSt) (p : ByteArray) (at_ : Int) (hp : p.size ≤ 140737488351232) (hp0 : p.size ≠ 0) (h0 : 0 ≤ at_) (h1 : at_ ≤ 140737488351232) (W : World) (HE : FEnv w0 W.heap.size st W)
    (n : ByteArray) (y : Int) (hd : decodeR (cutR 61 p).1 true = (n, 0, y)) (n2 : ByteArray) (y2 : Int) (hd2 : decodeR (cutR 61 p).2.1 true = (n2, 0, y2)) (hl : (st.1.length + 1) * 32 ≤ 140737488355328) :
    Calls Try.prog 27 #[.string p, .int .i64 at_, .pointer (some ⟨w0.heap.size + 1, 0, none⟩), .pointer (some ⟨w0.heap.size + 1 + 1, 0, none⟩), .pointer (some ⟨w0.heap.size, 0, none⟩)] W fun e W' =>
      e = .returned (.bool true) ∧ FEnv w0 W'.heap.size (st.1 ++ [(n, n2)], 0, st.2.2) W' := by
  have HE0 := Aside0.mk HE
  have e1 : p.toList.isEmpty = false := by
    cases h : p.toList.isEmpty with
    | false => rfl
    | true => rw [List.isEmpty_iff, ByteArray.toList_eq] at h; exact absurd (by rw [← data_length, h]; rfl) hp0
  have hs := cutR_sizes 61 p
  have hy := decodeR_pos (cutR 61 p).2.1 true
  rw [hd2] at hy
  have hy0 : 0 ≤ y2 := hy.1
  have hy1 : y2 ≤ 140737488351232 := by have := hy.2; simp only at this; omega
  have hz1 : ((cutR 61 p).1.size : Int) ≤ 140737488351232 := by omega
  have hdc := fun W => decode_calls (cutR 61 p).1 true W (by omega)
  rw [hd] at hdc
  have HD := Aside0.mk hdc
  have hdc2 := fun W => decode_calls (cutR 61 p).2.1 true W (by omega)
  rw [hd2] at hdc2
  have HD2 := Aside0.mk hdc2
  have HC := Aside0.mk (fun W => cut_calls p 61 hp W)
  have HL := Aside0.mk hl
  clear hdc hdc2 hd hd2 hs hy hp HE hl
  go_enter Try.func27, Try.ntmps27
  go_wp2_with (first | (go_at_call 28; refine (HC.out _).mono ?_; rintro e w1 ⟨rfl, ⟨⟨nd, rfl⟩⟩⟩) | (go_at_call 8; ((with_reducible refine (HD.out _).mono ?_); rintro e w2 ⟨rfl, hb⟩; have HX2 : Aside0 (Pairbox w2 W.heap.size ⟨#[]⟩ ⟨#[]⟩) := ⟨box_new (W := W.drewN nd) hb⟩; have HE2 := Aside0.mk (((HE0.out.drewN nd).alloc _).below hb); obtain ⟨cX0, cX1, fX0, fX1, cE, fE, cP, fP, n1, n2_, n3, n4, n5, n6⟩ := HE2.out.cells HX2.out (Nat.le_refl _) HE0.out.lt; clear hb)) | (go_at_call 8; ((with_reducible refine (HD2.out _).mono ?_); rintro e w4 ⟨rfl, hb⟩; obtain ⟨hE4, hX4⟩ := HE2.out.second HX2.out (Nat.le_refl _) HE0.out.lt n hb; have HX4 := Aside0.mk hX4; have HE4 := Aside0.mk hE4; clear hb hE4 hX4 cX0 cX1 fX0 fX1 cE fE cP fP n1 n2_ n3 n4 n5 n6 HE2 HX2; obtain ⟨cX0, cX1, fX0, fX1, cE, fE, cP, fP, n1, n2_, n3, n4, n5, n6⟩ := HE4.out.cells HX4.out (Nat.le_refl _) HE0.out.lt; obtain ⟨v, hv4, _⟩ := HE4.out.outs; have cG := hv4.cell; have HV4 := Aside0.mk hv4; clear hv4)) | (at_builtin; obtain ⟨hE5, hX5⟩ := HE4.out.third HX4.out (Nat.le_refl _) HE0.out.lt n2; obtain ⟨v', hv5, hr5⟩ := hE5.outs; have e5 : v' = v := (Option.some.inj (hv5.cell.symm.trans (((HV4.out.other (by have := HE0.out.lt; omega) 1 _).other (by omega) 0 _).cell))); subst e5; refine Kd.R_append pk (w0 := w0) w0.heap.size rfl (.tmp 49) (.tmp 51) 28 52 (.agg #[.string ⟨#[]⟩, .string ⟨#[]⟩]) 32 rfl Try.underlying28 infoP (by rfl) (by decide) (by decide) _ st.1 (n, n2) [.string n, .string n2] (fun k => w0.heap.size + 3 ≤ k) (fun _ => False) rfl (by rw [heap_set_size, heap_set_size]; rfl) ⟨_, _, rfl, rfl, rfl⟩ (fun k h => h.elim) (fun k hk => Nat.le_trans hE5.lt hk) hr5 hE5.bel (Nat.le_trans (by omega) hE5.lt) HL.out ?_; intro v1 w5 ho hb hg hat; obtain ⟨A1, c1, L1, e1_⟩ : ∃ A c L, v1 = .slice A L c := (by obtain ⟨A, c, e⟩ := Kd.R_slice ho; exact ⟨A, c, _, e⟩); subst e1_; obtain ⟨hv6, hE6⟩ := hE5.appended hv5 hr5 ho hb hg; have c6 := hv6.cell; have f6 := hv6.free; have HE6 := Aside0.mk hE6; clear hE5 hX5 hv5 hr5 ho hb hg hat hv6 hE6 cX0 cX1 fX0 fX1 cE fE cP fP cG))
  go_ret
  exact ⟨rfl, HE6.out⟩
end Go.Proofs.Ytkaacdfikaggfaa.UriD
