/- The law function RowBytes by hand, on the path where all is equal. -/
import Derived.Test.YthphoifaingbkaaPBx
import Derived.Test.YthphoifaingbkaaRowOf4
namespace Go.Proofs.Ythphoifaingbkaa.PB
open Go.RowKit Go.Proofs.YthphoifaingbkaaW.PrintWords Go.Proofs.YthphoifaingbkaaW.PrintLast Go.Proofs.YthphoifaingbkaaW.PrintMore Go.Proofs.Ythphoifaingbkaa.RowOf
set_option linter.unusedVariables false
set_option linter.unusedSimpArgs false
/-- A row in a variable of its own, its lists as they read. -/
structure Held (W : World) (g : Nat) (key : ByteArray) (cl : List ByteArray) (S I : List Int) (A1 : Option Addr) (c1 : Nat) (A2 : Option Addr) (c2 : Nat) (A3 : Option Addr) (c3 : Nat) (who : Int) : Prop where
  box : W.heap[g]? = some (rowObj key (.slice A1 cl.length c1) (.slice A2 S.length c2) (.slice A3 I.length c3) who)
  C1 : Kd.C Kd.string W A1 cl.length cl
  H1 : cl.length ≤ c1
  C2 : Kd.C (Kd.int .i64) W A2 S.length S
  H2 : S.length ≤ c2
  C3 : Kd.C (Kd.int .i64) W A3 I.length I
  H3 : I.length ≤ c3
section
variable {W W' : World} {g : Nat} {key : ByteArray} {cl : List ByteArray} {S I : List Int} {A1 A2 A3 : Option Addr} {c1 c2 c3 : Nat} {who : Int}
theorem Held.below (h : Held W g key cl S I A1 c1 A2 c2 A3 c3 who) (hb : Below W.heap.size W W') : Held W' g key cl S I A1 c1 A2 c2 A3 c3 who :=
  ⟨(hb.block g (lt_of_block h.box)).trans h.box, Kd.C_below h.C1 hb, h.H1, Kd.C_below h.C2 hb, h.H2, Kd.C_below h.C3 hb, h.H3⟩
theorem Held.alloc (h : Held W g key cl S I A1 c1 A2 c2 A3 c3 who) (o : Obj) : Held (W.alloc o) g key cl S I A1 c1 A2 c2 A3 c3 who := h.below (below_alloc (Below.refl _ _) o)
theorem Held.drew (h : Held W g key cl S I A1 c1 A2 c2 A3 c3 who) : Held W.drew g key cl S I A1 c1 A2 c2 A3 c3 who := h.below (below_drew1 (Below.refl _ _))
theorem Held.made (C1 : Kd.C Kd.string W A1 cl.length cl) (H1 : cl.length ≤ c1) (C2 : Kd.C (Kd.int .i64) W A2 S.length S) (H2 : S.length ≤ c2) (C3 : Kd.C (Kd.int .i64) W A3 I.length I) (H3 : I.length ≤ c3) :
    Held (W.alloc (.cells #[.string key, .slice A1 cl.length c1, .slice A2 S.length c2, .slice A3 I.length c3, .int .i64 who] 27)) W.heap.size key cl S I A1 c1 A2 c2 A3 c3 who :=
  ⟨heap_new _ _ rfl, Kd.C_alloc C1 _, H1, Kd.C_alloc C2 _, H2, Kd.C_alloc C3 _, H3⟩
end
theorem cells15 {W : World} {g gx gy : Nat} {key keyx keyy : ByteArray} {cl clx cly : List ByteArray} {S I Sx Ix Sy Iy : List Int} {A1 A2 A3 X1 X2 X3 Y1 Y2 Y3 : Option Addr} {c1 c2 c3 x1 x2 x3 y1 y2 y3 : Nat} {who whox whoy : Int}
    (h : Held W g key cl S I A1 c1 A2 c2 A3 c3 who) (hx : Held W gx keyx clx Sx Ix X1 x1 X2 x2 X3 x3 whox) (hy : Held W gy keyy cly Sy Iy Y1 y1 Y2 y2 Y3 y3 whoy) :
    W.cell? ⟨g, 0, none⟩ = some (.string key) ∧ W.cell? ⟨g, 1, none⟩ = some (.slice A1 cl.length c1) ∧ W.cell? ⟨g, 2, none⟩ = some (.slice A2 S.length c2) ∧ W.cell? ⟨g, 3, none⟩ = some (.slice A3 I.length c3) ∧ W.cell? ⟨g, 4, none⟩ = some (.int .i64 who) ∧
    W.cell? ⟨gx, 0, none⟩ = some (.string keyx) ∧ W.cell? ⟨gx, 1, none⟩ = some (.slice X1 clx.length x1) ∧ W.cell? ⟨gx, 2, none⟩ = some (.slice X2 Sx.length x2) ∧ W.cell? ⟨gx, 3, none⟩ = some (.slice X3 Ix.length x3) ∧ W.cell? ⟨gx, 4, none⟩ = some (.int .i64 whox) ∧
    W.cell? ⟨gy, 0, none⟩ = some (.string keyy) ∧ W.cell? ⟨gy, 1, none⟩ = some (.slice Y1 cly.length y1) ∧ W.cell? ⟨gy, 2, none⟩ = some (.slice Y2 Sy.length y2) ∧ W.cell? ⟨gy, 3, none⟩ = some (.slice Y3 Iy.length y3) ∧ W.cell? ⟨gy, 4, none⟩ = some (.int .i64 whoy) := by
  obtain ⟨a0, a1, a2, a3, a4⟩ := row_cells h.box
  obtain ⟨b0, b1, b2, b3, b4⟩ := row_cells hx.box
  obtain ⟨d0, d1, d2, d3, d4⟩ := row_cells hy.box
  exact ⟨a0, a1, a2, a3, a4, b0, b1, b2, b3, b4, d0, d1, d2, d3, d4⟩
def RowBytesH.f (k : Nat) (a0_0 : ByteArray) (l0_1 : List ByteArray) (l0_2 l0_3 : List Int) (a0_4 : Int) (a1 : ByteArray) : Option Bool :=
  (row_Size.f k a0_0 l0_1 l0_2 l0_3 a0_4).bind fun p => (cloisterref11_Size.f k a0_0 l0_1 l0_2 l0_3 a0_4).bind fun q => (row_Bytes.f k a0_0 l0_1 l0_2 l0_3 a0_4).bind fun a => (cloisterref11_Bytes.f k a0_0 l0_1 l0_2 l0_3 a0_4).bind fun b => (row_Of.f k a1).bind fun x => (cloisterref11_Of.f k a1).bind fun y =>
  (row_Check.f k a0_0 l0_1 l0_2 l0_3 a0_4).bind fun c => (cloisterref11_Check.f k a0_0 l0_1 l0_2 l0_3 a0_4).bind fun d => (cloisterref11_Same.f k x.1 x.2.1 x.2.2.1 x.2.2.2.1 x.2.2.2.2.1 y.1 y.2.1 y.2.2.1 y.2.2.2.1 y.2.2.2.2.1).bind fun s => (cloisterlaw11_awake.f k).bind fun v =>
  some (decide (p = q ∧ a = b ∧ x = y ∧ c = d ∧ s = true ∧ v = true))
set_option maxHeartbeats 16000000 in
set_option maxRecDepth 100000 in
theorem RowBytesH.calls (k : Nat) (a0_0 : ByteArray) (A1 : Option Addr) (c1 : Nat) (l0_1 : List ByteArray) (A2 : Option Addr) (c2 : Nat) (l0_2 : List Int) (A3 : Option Addr) (c3 : Nat) (l0_3 : List Int) (a0_4 : Int) (a1 : ByteArray) (r : Bool) (w : World) (hr0_1 : Kd.C Kd.string w A1 l0_1.length l0_1) (hc0_1 : l0_1.length ≤ c1) (hr0_2 : Kd.C (Kd.int .i64) w A2 l0_2.length l0_2) (hc0_2 : l0_2.length ≤ c2) (hr0_3 : Kd.C (Kd.int .i64) w A3 l0_3.length l0_3) (hc0_3 : l0_3.length ≤ c3) (h : RowBytesH.f k a0_0 l0_1 l0_2 l0_3 a0_4 a1 = some true) :
    Calls Try.prog 5 #[.agg #[.string a0_0, .slice A1 l0_1.length c1, .slice A2 l0_2.length c2, .slice A3 l0_3.length c3, .int .i64 a0_4], .string a1] w fun e w' => e = .returned (.bool true) ∧ Below w.heap.size w w' := by
  have hu27 := Try.underlying27
  have hu25 := Try.underlying25
  unfold RowBytesH.f at h
  obtain ⟨p, hp, h⟩ := Option.bind_eq_some_iff.mp h
  obtain ⟨q, hq, h⟩ := Option.bind_eq_some_iff.mp h
  obtain ⟨a, ha, h⟩ := Option.bind_eq_some_iff.mp h
  obtain ⟨b, hb, h⟩ := Option.bind_eq_some_iff.mp h
  obtain ⟨x, hx, h⟩ := Option.bind_eq_some_iff.mp h
  obtain ⟨y, hy, h⟩ := Option.bind_eq_some_iff.mp h
  obtain ⟨c, hc, h⟩ := Option.bind_eq_some_iff.mp h
  obtain ⟨d, hd, h⟩ := Option.bind_eq_some_iff.mp h
  obtain ⟨s, hs, h⟩ := Option.bind_eq_some_iff.mp h
  obtain ⟨v, hv, h⟩ := Option.bind_eq_some_iff.mp h
  simp only [Option.some.injEq, decide_eq_true_eq] at h
  obtain ⟨rfl, rfl, rfl, rfl, rfl, rfl⟩ := h
  obtain ⟨n, e⟩ := p
  obtain ⟨t, f⟩ := a
  obtain ⟨x1, x2, x3, x4, x5, x6, x7⟩ := x
  have hSz := Aside0.mk hp; have hRSz := Aside0.mk hq; have hBy := Aside0.mk ha; have hRBy := Aside0.mk hb; have hOf := Aside0.mk hx; have hROf := Aside0.mk hy; have hCk := Aside0.mk hc; have hRCk := Aside0.mk hd; have hSm := Aside0.mk hs; have hAw := Aside0.mk hv
  clear hp hq ha hb hx hy hc hd hs hv
  have HR0 := Aside0.mk (Held.made (key := a0_0) (who := a0_4) hr0_1 hc0_1 hr0_2 hc0_2 hr0_3 hc0_3)
  have HB0 := Aside0.mk (below_alloc (Below.refl w.heap.size w) (.cells #[.string a0_0, .slice A1 l0_1.length c1, .slice A2 l0_2.length c2, .slice A3 l0_3.length c3, .int .i64 a0_4] 27))
  obtain ⟨r0, r1, r2, r3, r4⟩ := row_cells HR0.out.box
  clear hr0_1 hc0_1 hr0_2 hc0_2 hr0_3 hc0_3
  go_enter Try.func5, Try.ntmps5
  go_wp2_with (first | (go_at_call 7; refine (row_Size.calls k a0_0 _ _ l0_1 _ _ l0_2 _ _ l0_3 a0_4 n e _ HR0.out.C1 HR0.out.H1 HR0.out.C2 HR0.out.H2 HR0.out.C3 HR0.out.H3 hSz.out).mono ?_; rintro e' w1 ⟨rfl, hb⟩; have HR1 := Aside0.mk (HR0.out.below hb); have HB1 := Aside0.mk (below_step HB0.out hb); clear hb HR0 HB0 r0 r1 r2 r3 r4; obtain ⟨r0, r1, r2, r3, r4⟩ := row_cells HR1.out.box) | (go_at_call 12; refine (cloisterref11_Size.calls k a0_0 _ _ l0_1 _ _ l0_2 _ _ l0_3 a0_4 n e _ HR1.out.C1 HR1.out.H1 HR1.out.C2 HR1.out.H2 HR1.out.C3 HR1.out.H3 hRSz.out).mono ?_; rintro e' w2 ⟨rfl, hb⟩; have HR2 := Aside0.mk (HR1.out.below hb); have HB2 := Aside0.mk (below_step HB1.out hb); clear hb HR1 HB1 r0 r1 r2 r3 r4; obtain ⟨r0, r1, r2, r3, r4⟩ := row_cells HR2.out.box) | (go_at_call 10; refine (row_Bytes.calls k a0_0 _ _ l0_1 _ _ l0_2 _ _ l0_3 a0_4 t f _ HR2.out.C1 HR2.out.H1 HR2.out.C2 HR2.out.H2 HR2.out.C3 HR2.out.H3 hBy.out).mono ?_; rintro e' w3 ⟨rfl, hb⟩; have HR3 := Aside0.mk (HR2.out.below hb); have HB3 := Aside0.mk (below_step HB2.out hb); clear hb HR2 HB2 r0 r1 r2 r3 r4; obtain ⟨r0, r1, r2, r3, r4⟩ := row_cells HR3.out.box) | (go_at_call 13; refine (cloisterref11_Bytes.calls k a0_0 _ _ l0_1 _ _ l0_2 _ _ l0_3 a0_4 t f _ HR3.out.C1 HR3.out.H1 HR3.out.C2 HR3.out.H2 HR3.out.C3 HR3.out.H3 hRBy.out).mono ?_; rintro e' w4 ⟨rfl, hb⟩; have HR4 := Aside0.mk (HR3.out.below hb); have HB4 := Aside0.mk (below_step HB3.out hb); clear hb HR3 HB3 r0 r1 r2 r3 r4; obtain ⟨r0, r1, r2, r3, r4⟩ := row_cells HR4.out.box) | (go_at_call 14; refine (row_Of.calls k a1 x1 x2 x3 x4 x5 x6 x7 _ hOf.out).mono ?_; rintro e' w5 ⟨v1, v2, v3, rfl, d1, d2, d3, hb⟩; obtain ⟨Ax1, cx1, rfl, hx1, hX1⟩ := Kd.R_reads d1; obtain ⟨Ax2, cx2, rfl, hx2, hX2⟩ := Kd.R_reads d2; obtain ⟨Ax3, cx3, rfl, hx3, hX3⟩ := Kd.R_reads d3; have HX5 := Aside0.mk (Held.made (key := x1) (who := x5) hX1 hx1 hX2 hx2 hX3 hx3); clear d1 d2 d3 hx1 hX1 hx2 hX2 hx3 hX3; have HR5 := Aside0.mk ((HR4.out.below hb).alloc (.cells #[.string x1, .slice Ax1 x2.length cx1, .slice Ax2 x3.length cx2, .slice Ax3 x4.length cx3, .int .i64 x5] 27)); have HB5 := Aside0.mk (below_alloc (below_step HB4.out hb) (.cells #[.string x1, .slice Ax1 x2.length cx1, .slice Ax2 x3.length cx2, .slice Ax3 x4.length cx3, .int .i64 x5] 27)); clear hb HR4 HB4 r0 r1 r2 r3 r4; obtain ⟨r0, r1, r2, r3, r4⟩ := row_cells HR5.out.box) | (go_at_call 15; refine (cloisterref11_Of.calls k a1 x1 x2 x3 x4 x5 x6 x7 _ hROf.out).mono ?_; rintro e' w6 ⟨v1, v2, v3, rfl, d1, d2, d3, hb⟩; obtain ⟨Ay1, cy1, rfl, hx1, hX1⟩ := Kd.R_reads d1; obtain ⟨Ay2, cy2, rfl, hx2, hX2⟩ := Kd.R_reads d2; obtain ⟨Ay3, cy3, rfl, hx3, hX3⟩ := Kd.R_reads d3; have HY6 := Aside0.mk (Held.made (key := x1) (who := x5) hX1 hx1 hX2 hx2 hX3 hx3); clear d1 d2 d3 hx1 hX1 hx2 hX2 hx3 hX3; have HX6 := Aside0.mk ((HX5.out.below hb).alloc (.cells #[.string x1, .slice Ay1 x2.length cy1, .slice Ay2 x3.length cy2, .slice Ay3 x4.length cy3, .int .i64 x5] 27)); clear HX5; have HR6 := Aside0.mk ((HR5.out.below hb).alloc (.cells #[.string x1, .slice Ay1 x2.length cy1, .slice Ay2 x3.length cy2, .slice Ay3 x4.length cy3, .int .i64 x5] 27)); have HB6 := Aside0.mk (below_alloc (below_step HB5.out hb) (.cells #[.string x1, .slice Ay1 x2.length cy1, .slice Ay2 x3.length cy2, .slice Ay3 x4.length cy3, .int .i64 x5] 27)); clear hb HR5 HB5 r0 r1 r2 r3 r4; obtain ⟨r0, r1, r2, r3, r4⟩ := row_cells HR6.out.box))
  have T0 := cells15 HR6.out.drew HX6.out.drew HY6.out.drew
  have HB7 := Aside0.mk (below_drew1 HB6.out)
  have HR7 := Aside0.mk HR6.out.drew
  have HX7 := Aside0.mk HX6.out.drew
  have HY7 := Aside0.mk HY6.out.drew
  clear HB6 HR6 HX6 HY6 r0 r1 r2 r3 r4
  have T := T0
  generalize hgx : w5.heap.size = gx at T HX7 ⊢
  generalize hgy : w6.heap.size = gy at T HY7 ⊢
  clear T0 hgx hgy
  refine start_ (n := 44) (S := fun w' => w'.cell? ⟨w.heap.size, 0, none⟩ = some (.string a0_0) ∧ w'.cell? ⟨w.heap.size, 1, none⟩ = some (.slice A1 l0_1.length c1) ∧ w'.cell? ⟨w.heap.size, 2, none⟩ = some (.slice A2 l0_2.length c2) ∧ w'.cell? ⟨w.heap.size, 3, none⟩ = some (.slice A3 l0_3.length c3) ∧ w'.cell? ⟨w.heap.size, 4, none⟩ = some (.int .i64 a0_4) ∧ w'.cell? ⟨gx, 0, none⟩ = some (.string x1) ∧ w'.cell? ⟨gx, 1, none⟩ = some (.slice Ax1 x2.length cx1) ∧ w'.cell? ⟨gx, 2, none⟩ = some (.slice Ax2 x3.length cx2) ∧ w'.cell? ⟨gx, 3, none⟩ = some (.slice Ax3 x4.length cx3) ∧ w'.cell? ⟨gx, 4, none⟩ = some (.int .i64 x5) ∧ w'.cell? ⟨gy, 0, none⟩ = some (.string x1) ∧ w'.cell? ⟨gy, 1, none⟩ = some (.slice Ay1 x2.length cy1) ∧ w'.cell? ⟨gy, 2, none⟩ = some (.slice Ay2 x3.length cy2) ∧ w'.cell? ⟨gy, 3, none⟩ = some (.slice Ay3 x4.length cy3) ∧ w'.cell? ⟨gy, 4, none⟩ = some (.int .i64 x5)) (ds := []) #[false, false, false, false, false, false, false, false, false, false, false, false, false, false, false, false, false, false, false, false, false, false, false, false, false, false, false, false, false, false, false, false, false, false, false, false, false, false, false, false, false, false, false, false] (by kernel_rfl) rfl rfl ⟨T.1, T.2.1, T.2.2.1, T.2.2.2.1, T.2.2.2.2.1, T.2.2.2.2.2.1, T.2.2.2.2.2.2.1, T.2.2.2.2.2.2.2.1, T.2.2.2.2.2.2.2.2.1, T.2.2.2.2.2.2.2.2.2.1, T.2.2.2.2.2.2.2.2.2.2.1, T.2.2.2.2.2.2.2.2.2.2.2.1, T.2.2.2.2.2.2.2.2.2.2.2.2.1, T.2.2.2.2.2.2.2.2.2.2.2.2.2.1, T.2.2.2.2.2.2.2.2.2.2.2.2.2.2⟩ (fun hHeld => ?_)
  generalize (w6.alloc (.cells #[.string x1, .slice Ay1 x2.length cy1, .slice Ay2 x3.length cy2, .slice Ay3 x4.length cy3, .int .i64 x5] 27)).drew = w6d at T HR7 HX7 HY7 HB7 hHeld ⊢
  refine take_ (i := 0) (N := some 51) (v := ?_) (a' := ?_) #[true, false, false, false, false, false, false, false, false, false, false, false, false, false, false, false, false, false, false, false, false, false, false, false, false, false, false, false, false, false, false, false, false, false, false, false, false, false, false, false, false, false, false, false] rfl rfl (by kernel_rfl) (fun _ _ _ h => h) (Or.inl ⟨by rfl, ?_⟩) hHeld ?_ ?_
  rotate_left
  · rintro w' ⟨s0, s1, s2, s3, s4, s5, s6, s7, s8, s9, s10, s11, s12, s13, s14⟩
    go_simp
    with_reducible rfl
  rotate_left
  · simp only [Act.put, List.setIfInBounds_toArray, List.set_cons_zero, List.set_cons_succ, i64_w, i32_w]
    rfl
  refine take_ (i := 2) (N := some 53) (v := ?_) (a' := ?_) #[true, false, true, false, false, false, false, false, false, false, false, false, false, false, false, false, false, false, false, false, false, false, false, false, false, false, false, false, false, false, false, false, false, false, false, false, false, false, false, false, false, false, false, false] rfl rfl (by kernel_rfl) (fun _ _ _ h => h) (Or.inl ⟨by rfl, ?_⟩) hHeld ?_ ?_
  rotate_left
  · rintro w' ⟨s0, s1, s2, s3, s4, s5, s6, s7, s8, s9, s10, s11, s12, s13, s14⟩
    go_simp
    with_reducible rfl
  rotate_left
  · simp only [Act.put, List.setIfInBounds_toArray, List.set_cons_zero, List.set_cons_succ, i64_w, i32_w]
    rfl
  refine one_ (i := 1) (N := some 52) #[true, true, true, false, false, false, false, false, false, false, false, false, false, false, false, false, false, false, false, false, false, false, false, false, false, false, false, false, false, false, false, false, false, false, false, false, false, false, false, false, false, false, false, false] rfl rfl (by kernel_rfl) (by decide) (fun K hK => ?_)
  refine goes_ Try.func16 (by kernel_rfl) rfl #[.agg #[.string a0_0, .slice A1 l0_1.length c1, .slice A2 l0_2.length c2, .slice A3 l0_3.length c3, .int .i64 a0_4]] (by rfl) rfl rfl (by (try simp only [List.map_toArray, List.map_cons, List.map_nil]); first | done | rfl) ?_
  refine (row_Check.calls k a0_0 _ _ l0_1 _ _ l0_2 _ _ l0_3 a0_4 c _ HR7.out.C1 HR7.out.H1 HR7.out.C2 HR7.out.H2 HR7.out.C3 HR7.out.H3 hCk.out).mono ?_
  rintro e' w7 ⟨rfl, hb⟩
  refine ⟨_, rfl, ?_⟩
  have HR8 := Aside0.mk (HR7.out.below hb)
  have HX8 := Aside0.mk (HX7.out.below hb)
  have HY8 := Aside0.mk (HY7.out.below hb)
  have HB8 := Aside0.mk (below_step HB7.out hb)
  clear hb HR7 HX7 HY7 HB7 T
  have T := cells15 HR8.out HX8.out HY8.out
  refine hK.out _ _ ⟨T.1, T.2.1, T.2.2.1, T.2.2.2.1, T.2.2.2.2.1, T.2.2.2.2.2.1, T.2.2.2.2.2.2.1, T.2.2.2.2.2.2.2.1, T.2.2.2.2.2.2.2.2.1, T.2.2.2.2.2.2.2.2.2.1, T.2.2.2.2.2.2.2.2.2.2.1, T.2.2.2.2.2.2.2.2.2.2.2.1, T.2.2.2.2.2.2.2.2.2.2.2.2.1, T.2.2.2.2.2.2.2.2.2.2.2.2.2.1, T.2.2.2.2.2.2.2.2.2.2.2.2.2.2⟩ (fun hHeld => ?_)
  clear hK K
  refine norm_ (a' := ?_) ?_ ?_
  rotate_left
  · show Act.put _ (some 52) _ = _
    simp only [Act.put, List.setIfInBounds_toArray, List.set_cons_zero, List.set_cons_succ, i64_w, i32_w]
    rfl
  refine one_ (i := 3) (N := some 54) #[true, true, true, true, false, false, false, false, false, false, false, false, false, false, false, false, false, false, false, false, false, false, false, false, false, false, false, false, false, false, false, false, false, false, false, false, false, false, false, false, false, false, false, false] rfl rfl (by kernel_rfl) (by decide) (fun K hK => ?_)
  refine goes_ Try.func17 (by kernel_rfl) rfl #[.agg #[.string a0_0, .slice A1 l0_1.length c1, .slice A2 l0_2.length c2, .slice A3 l0_3.length c3, .int .i64 a0_4]] (by rfl) rfl rfl (by (try simp only [List.map_toArray, List.map_cons, List.map_nil]); first | done | rfl) ?_
  refine (cloisterref11_Check.calls k a0_0 _ _ l0_1 _ _ l0_2 _ _ l0_3 a0_4 c _ HR8.out.C1 HR8.out.H1 HR8.out.C2 HR8.out.H2 HR8.out.C3 HR8.out.H3 hRCk.out).mono ?_
  rintro e' w8 ⟨rfl, hb⟩
  refine ⟨_, rfl, ?_⟩
  have HR9 := Aside0.mk (HR8.out.below hb)
  have HX9 := Aside0.mk (HX8.out.below hb)
  have HY9 := Aside0.mk (HY8.out.below hb)
  have HB9 := Aside0.mk (below_step HB8.out hb)
  clear hb HR8 HX8 HY8 HB8 T
  have T := cells15 HR9.out HX9.out HY9.out
  refine hK.out _ _ ⟨T.1, T.2.1, T.2.2.1, T.2.2.2.1, T.2.2.2.2.1, T.2.2.2.2.2.1, T.2.2.2.2.2.2.1, T.2.2.2.2.2.2.2.1, T.2.2.2.2.2.2.2.2.1, T.2.2.2.2.2.2.2.2.2.1, T.2.2.2.2.2.2.2.2.2.2.1, T.2.2.2.2.2.2.2.2.2.2.2.1, T.2.2.2.2.2.2.2.2.2.2.2.2.1, T.2.2.2.2.2.2.2.2.2.2.2.2.2.1, T.2.2.2.2.2.2.2.2.2.2.2.2.2.2⟩ (fun hHeld => ?_)
  clear hK K
  refine norm_ (a' := ?_) ?_ ?_
  rotate_left
  · show Act.put _ (some 54) _ = _
    simp only [Act.put, List.setIfInBounds_toArray, List.set_cons_zero, List.set_cons_succ, i64_w, i32_w]
    rfl
  refine pure_ (i := 4) (N := some 55) (v := ?_) (a' := ?_) #[true, true, true, true, true, false, false, false, false, false, false, false, false, false, false, false, false, false, false, false, false, false, false, false, false, false, false, false, false, false, false, false, false, false, false, false, false, false, false, false, false, false, false, false] rfl rfl (by kernel_rfl) (fun _ _ _ h => h) (Or.inl ⟨by rfl, ?_⟩) ?_ ?_
  rotate_left
  · intro w'
    go_simp
    with_reducible rfl
  rotate_left
  · simp only [Act.put, List.setIfInBounds_toArray, List.set_cons_zero, List.set_cons_succ, i64_w, i32_w]
    rfl
  refine pure_ (i := 5) (N := some 56) (v := ?_) (a' := ?_) #[true, true, true, true, true, true, false, false, false, false, false, false, false, false, false, false, false, false, false, false, false, false, false, false, false, false, false, false, false, false, false, false, false, false, false, false, false, false, false, false, false, false, false, false] rfl rfl (by kernel_rfl) (fun _ _ _ h => h) (Or.inl ⟨by rfl, ?_⟩) ?_ ?_
  rotate_left
  · intro w'
    go_simp
    with_reducible rfl
  rotate_left
  · simp only [Act.put, List.setIfInBounds_toArray, List.set_cons_zero, List.set_cons_succ, i64_w, i32_w]
    rfl
  refine pure_ (i := 6) (N := some 57) (v := ?_) (a' := ?_) #[true, true, true, true, true, true, true, false, false, false, false, false, false, false, false, false, false, false, false, false, false, false, false, false, false, false, false, false, false, false, false, false, false, false, false, false, false, false, false, false, false, false, false, false] rfl rfl (by kernel_rfl) (fun _ _ _ h => h) (Or.inl ⟨by rfl, ?_⟩) ?_ ?_
  rotate_left
  · intro w'
    go_simp
    with_reducible rfl
  rotate_left
  · simp only [Act.put, List.setIfInBounds_toArray, List.set_cons_zero, List.set_cons_succ, i64_w, i32_w]
    rfl
  refine pure_ (i := 7) (N := some 58) (v := ?_) (a' := ?_) #[true, true, true, true, true, true, true, true, false, false, false, false, false, false, false, false, false, false, false, false, false, false, false, false, false, false, false, false, false, false, false, false, false, false, false, false, false, false, false, false, false, false, false, false] rfl rfl (by kernel_rfl) (fun _ _ _ h => h) (Or.inl ⟨by rfl, ?_⟩) ?_ ?_
  rotate_left
  · intro w'
    go_simp
    with_reducible rfl
  rotate_left
  · simp only [Act.put, List.setIfInBounds_toArray, List.set_cons_zero, List.set_cons_succ, i64_w, i32_w]
    rfl
  refine pure_ (i := 8) (N := some 59) (v := ?_) (a' := ?_) #[true, true, true, true, true, true, true, true, true, false, false, false, false, false, false, false, false, false, false, false, false, false, false, false, false, false, false, false, false, false, false, false, false, false, false, false, false, false, false, false, false, false, false, false] rfl rfl (by kernel_rfl) (fun _ _ _ h => h) (Or.inl ⟨by rfl, ?_⟩) ?_ ?_
  rotate_left
  · intro w'
    go_simp
    with_reducible rfl
  rotate_left
  · simp only [Act.put, List.setIfInBounds_toArray, List.set_cons_zero, List.set_cons_succ, i64_w, i32_w]
    rfl
  refine pure_ (i := 9) (N := some 60) (v := ?_) (a' := ?_) #[true, true, true, true, true, true, true, true, true, true, false, false, false, false, false, false, false, false, false, false, false, false, false, false, false, false, false, false, false, false, false, false, false, false, false, false, false, false, false, false, false, false, false, false] rfl rfl (by kernel_rfl) (fun _ _ _ h => h) (Or.inl ⟨by rfl, ?_⟩) ?_ ?_
  rotate_left
  · intro w'
    go_simp
    with_reducible rfl
  rotate_left
  · simp only [Act.put, List.setIfInBounds_toArray, List.set_cons_zero, List.set_cons_succ, i64_w, i32_w]
    rfl
  refine pure_ (i := 10) (N := some 61) (v := ?_) (a' := ?_) #[true, true, true, true, true, true, true, true, true, true, true, false, false, false, false, false, false, false, false, false, false, false, false, false, false, false, false, false, false, false, false, false, false, false, false, false, false, false, false, false, false, false, false, false] rfl rfl (by kernel_rfl) (fun _ _ _ h => h) (Or.inl ⟨by rfl, ?_⟩) ?_ ?_
  rotate_left
  · intro w'
    go_simp
    with_reducible rfl
  rotate_left
  · simp only [Act.put, List.setIfInBounds_toArray, List.set_cons_zero, List.set_cons_succ, i64_w, i32_w]
    rfl
  refine pure_ (i := 11) (N := some 62) (v := ?_) (a' := ?_) #[true, true, true, true, true, true, true, true, true, true, true, true, false, false, false, false, false, false, false, false, false, false, false, false, false, false, false, false, false, false, false, false, false, false, false, false, false, false, false, false, false, false, false, false] rfl rfl (by kernel_rfl) (fun _ _ _ h => h) (Or.inl ⟨by rfl, ?_⟩) ?_ ?_
  rotate_left
  · intro w'
    go_simp
    with_reducible rfl
  rotate_left
  · simp only [Act.put, List.setIfInBounds_toArray, List.set_cons_zero, List.set_cons_succ, i64_w, i32_w]
    rfl
  refine pure_ (i := 12) (N := some 63) (v := ?_) (a' := ?_) #[true, true, true, true, true, true, true, true, true, true, true, true, true, false, false, false, false, false, false, false, false, false, false, false, false, false, false, false, false, false, false, false, false, false, false, false, false, false, false, false, false, false, false, false] rfl rfl (by kernel_rfl) (fun _ _ _ h => h) (Or.inl ⟨by rfl, ?_⟩) ?_ ?_
  rotate_left
  · intro w'
    go_simp
    with_reducible rfl
  rotate_left
  · simp only [Act.put, List.setIfInBounds_toArray, List.set_cons_zero, List.set_cons_succ, i64_w, i32_w]
    rfl
  refine pure_ (i := 13) (N := some 64) (v := ?_) (a' := ?_) #[true, true, true, true, true, true, true, true, true, true, true, true, true, true, false, false, false, false, false, false, false, false, false, false, false, false, false, false, false, false, false, false, false, false, false, false, false, false, false, false, false, false, false, false] rfl rfl (by kernel_rfl) (fun _ _ _ h => h) (Or.inl ⟨by rfl, ?_⟩) ?_ ?_
  rotate_left
  · intro w'
    go_simp
    with_reducible rfl
  rotate_left
  · simp only [Act.put, List.setIfInBounds_toArray, List.set_cons_zero, List.set_cons_succ, i64_w, i32_w]
    rfl
  refine pure_ (i := 14) (N := some 65) (v := ?_) (a' := ?_) #[true, true, true, true, true, true, true, true, true, true, true, true, true, true, true, false, false, false, false, false, false, false, false, false, false, false, false, false, false, false, false, false, false, false, false, false, false, false, false, false, false, false, false, false] rfl rfl (by kernel_rfl) (fun _ _ _ h => h) (Or.inl ⟨by rfl, ?_⟩) ?_ ?_
  rotate_left
  · intro w'
    go_simp
    with_reducible rfl
  rotate_left
  · simp only [Act.put, List.setIfInBounds_toArray, List.set_cons_zero, List.set_cons_succ, i64_w, i32_w]
    rfl
  refine pure_ (i := 15) (N := some 66) (v := ?_) (a' := ?_) #[true, true, true, true, true, true, true, true, true, true, true, true, true, true, true, true, false, false, false, false, false, false, false, false, false, false, false, false, false, false, false, false, false, false, false, false, false, false, false, false, false, false, false, false] rfl rfl (by kernel_rfl) (fun _ _ _ h => h) (Or.inl ⟨by rfl, ?_⟩) ?_ ?_
  rotate_left
  · intro w'
    go_simp
    with_reducible rfl
  rotate_left
  · simp only [Act.put, List.setIfInBounds_toArray, List.set_cons_zero, List.set_cons_succ, i64_w, i32_w]
    rfl
  refine pure_ (i := 16) (N := some 67) (v := ?_) (a' := ?_) #[true, true, true, true, true, true, true, true, true, true, true, true, true, true, true, true, true, false, false, false, false, false, false, false, false, false, false, false, false, false, false, false, false, false, false, false, false, false, false, false, false, false, false, false] rfl rfl (by kernel_rfl) (fun _ _ _ h => h) (Or.inl ⟨by rfl, ?_⟩) ?_ ?_
  rotate_left
  · intro w'
    go_simp
    with_reducible rfl
  rotate_left
  · simp only [Act.put, List.setIfInBounds_toArray, List.set_cons_zero, List.set_cons_succ, i64_w, i32_w]
    rfl
  refine pure_ (i := 17) (N := some 68) (v := ?_) (a' := ?_) #[true, true, true, true, true, true, true, true, true, true, true, true, true, true, true, true, true, true, false, false, false, false, false, false, false, false, false, false, false, false, false, false, false, false, false, false, false, false, false, false, false, false, false, false] rfl rfl (by kernel_rfl) (fun _ _ _ h => h) (Or.inl ⟨by rfl, ?_⟩) ?_ ?_
  rotate_left
  · intro w'
    go_simp
    with_reducible rfl
  rotate_left
  · simp only [Act.put, List.setIfInBounds_toArray, List.set_cons_zero, List.set_cons_succ, i64_w, i32_w]
    rfl
  refine pure_ (i := 18) (N := some 69) (v := ?_) (a' := ?_) #[true, true, true, true, true, true, true, true, true, true, true, true, true, true, true, true, true, true, true, false, false, false, false, false, false, false, false, false, false, false, false, false, false, false, false, false, false, false, false, false, false, false, false, false] rfl rfl (by kernel_rfl) (fun _ _ _ h => h) (Or.inl ⟨by rfl, ?_⟩) ?_ ?_
  rotate_left
  · intro w'
    go_simp
    with_reducible rfl
  rotate_left
  · simp only [Act.put, List.setIfInBounds_toArray, List.set_cons_zero, List.set_cons_succ, i64_w, i32_w]
    rfl
  refine pure_ (i := 19) (N := some 70) (v := ?_) (a' := ?_) #[true, true, true, true, true, true, true, true, true, true, true, true, true, true, true, true, true, true, true, true, false, false, false, false, false, false, false, false, false, false, false, false, false, false, false, false, false, false, false, false, false, false, false, false] rfl rfl (by kernel_rfl) (fun _ _ _ h => h) (Or.inl ⟨by rfl, ?_⟩) ?_ ?_
  rotate_left
  · intro w'
    go_simp
    with_reducible rfl
  rotate_left
  · simp only [Act.put, List.setIfInBounds_toArray, List.set_cons_zero, List.set_cons_succ, i64_w, i32_w]
    rfl
  refine pure_ (i := 20) (N := some 71) (v := ?_) (a' := ?_) #[true, true, true, true, true, true, true, true, true, true, true, true, true, true, true, true, true, true, true, true, true, false, false, false, false, false, false, false, false, false, false, false, false, false, false, false, false, false, false, false, false, false, false, false] rfl rfl (by kernel_rfl) (fun _ _ _ h => h) (Or.inl ⟨by rfl, ?_⟩) ?_ ?_
  rotate_left
  · intro w'
    go_simp
    with_reducible rfl
  rotate_left
  · simp only [Act.put, List.setIfInBounds_toArray, List.set_cons_zero, List.set_cons_succ, i64_w, i32_w]
    rfl
  refine pure_ (i := 21) (N := some 72) (v := ?_) (a' := ?_) #[true, true, true, true, true, true, true, true, true, true, true, true, true, true, true, true, true, true, true, true, true, true, false, false, false, false, false, false, false, false, false, false, false, false, false, false, false, false, false, false, false, false, false, false] rfl rfl (by kernel_rfl) (fun _ _ _ h => h) (Or.inl ⟨by rfl, ?_⟩) ?_ ?_
  rotate_left
  · intro w'
    go_simp
    with_reducible rfl
  rotate_left
  · simp only [Act.put, List.setIfInBounds_toArray, List.set_cons_zero, List.set_cons_succ, i64_w, i32_w]
    rfl
  refine pure_ (i := 22) (N := some 73) (v := ?_) (a' := ?_) #[true, true, true, true, true, true, true, true, true, true, true, true, true, true, true, true, true, true, true, true, true, true, true, false, false, false, false, false, false, false, false, false, false, false, false, false, false, false, false, false, false, false, false, false] rfl rfl (by kernel_rfl) (fun _ _ _ h => h) (Or.inl ⟨by rfl, ?_⟩) ?_ ?_
  rotate_left
  · intro w'
    go_simp
    with_reducible rfl
  rotate_left
  · simp only [Act.put, List.setIfInBounds_toArray, List.set_cons_zero, List.set_cons_succ, i64_w, i32_w]
    rfl
  refine pure_ (i := 23) (N := some 74) (v := ?_) (a' := ?_) #[true, true, true, true, true, true, true, true, true, true, true, true, true, true, true, true, true, true, true, true, true, true, true, true, false, false, false, false, false, false, false, false, false, false, false, false, false, false, false, false, false, false, false, false] rfl rfl (by kernel_rfl) (fun _ _ _ h => h) (Or.inl ⟨by rfl, ?_⟩) ?_ ?_
  rotate_left
  · intro w'
    go_simp
    with_reducible rfl
  rotate_left
  · simp only [Act.put, List.setIfInBounds_toArray, List.set_cons_zero, List.set_cons_succ, i64_w, i32_w]
    rfl
  refine pure_ (i := 24) (N := some 75) (v := ?_) (a' := ?_) #[true, true, true, true, true, true, true, true, true, true, true, true, true, true, true, true, true, true, true, true, true, true, true, true, true, false, false, false, false, false, false, false, false, false, false, false, false, false, false, false, false, false, false, false] rfl rfl (by kernel_rfl) (fun _ _ _ h => h) (Or.inl ⟨by rfl, ?_⟩) ?_ ?_
  rotate_left
  · intro w'
    go_simp
    with_reducible rfl
  rotate_left
  · simp only [Act.put, List.setIfInBounds_toArray, List.set_cons_zero, List.set_cons_succ, i64_w, i32_w]
    rfl
  refine pure_ (i := 25) (N := some 76) (v := ?_) (a' := ?_) #[true, true, true, true, true, true, true, true, true, true, true, true, true, true, true, true, true, true, true, true, true, true, true, true, true, true, false, false, false, false, false, false, false, false, false, false, false, false, false, false, false, false, false, false] rfl rfl (by kernel_rfl) (fun _ _ _ h => h) (Or.inl ⟨by rfl, ?_⟩) ?_ ?_
  rotate_left
  · intro w'
    go_simp
    with_reducible rfl
  rotate_left
  · simp only [Act.put, List.setIfInBounds_toArray, List.set_cons_zero, List.set_cons_succ, i64_w, i32_w]
    rfl
  refine take_ (i := 26) (N := some 77) (v := ?_) (a' := ?_) #[true, true, true, true, true, true, true, true, true, true, true, true, true, true, true, true, true, true, true, true, true, true, true, true, true, true, true, false, false, false, false, false, false, false, false, false, false, false, false, false, false, false, false, false] rfl rfl (by kernel_rfl) (fun _ _ _ h => h) (Or.inl ⟨by rfl, ?_⟩) hHeld ?_ ?_
  rotate_left
  · rintro w' ⟨s0, s1, s2, s3, s4, s5, s6, s7, s8, s9, s10, s11, s12, s13, s14⟩
    go_simp
    with_reducible rfl
  rotate_left
  · simp only [Act.put, List.setIfInBounds_toArray, List.set_cons_zero, List.set_cons_succ, i64_w, i32_w]
    rfl
  refine take_ (i := 27) (N := some 78) (v := ?_) (a' := ?_) #[true, true, true, true, true, true, true, true, true, true, true, true, true, true, true, true, true, true, true, true, true, true, true, true, true, true, true, true, false, false, false, false, false, false, false, false, false, false, false, false, false, false, false, false] rfl rfl (by kernel_rfl) (fun _ _ _ h => h) (Or.inl ⟨by rfl, ?_⟩) hHeld ?_ ?_
  rotate_left
  · rintro w' ⟨s0, s1, s2, s3, s4, s5, s6, s7, s8, s9, s10, s11, s12, s13, s14⟩
    go_simp
    with_reducible rfl
  rotate_left
  · simp only [Act.put, List.setIfInBounds_toArray, List.set_cons_zero, List.set_cons_succ, i64_w, i32_w]
    rfl
  refine one_ (i := 28) (N := some 79) #[true, true, true, true, true, true, true, true, true, true, true, true, true, true, true, true, true, true, true, true, true, true, true, true, true, true, true, true, true, false, false, false, false, false, false, false, false, false, false, false, false, false, false, false] rfl rfl (by kernel_rfl) (by decide) (fun K hK => ?_)
  refine goes_ Try.func11 (by kernel_rfl) rfl #[.agg #[.string x1, .slice Ax1 x2.length cx1, .slice Ax2 x3.length cx2, .slice Ax3 x4.length cx3, .int .i64 x5], .agg #[.string x1, .slice Ay1 x2.length cy1, .slice Ay2 x3.length cy2, .slice Ay3 x4.length cy3, .int .i64 x5]] (by rfl) rfl rfl (by (try simp only [List.map_toArray, List.map_cons, List.map_nil]); first | done | rfl) ?_
  refine (cloisterref11_Same.calls k x1 _ _ x2 _ _ x3 _ _ x4 x5 x1 _ _ x2 _ _ x3 _ _ x4 x5 true _ HX9.out.C1 HX9.out.H1 HX9.out.C2 HX9.out.H2 HX9.out.C3 HX9.out.H3 HY9.out.C1 HY9.out.H1 HY9.out.C2 HY9.out.H2 HY9.out.C3 HY9.out.H3 hSm.out).mono ?_
  rintro e' w9 ⟨rfl, hb⟩
  refine ⟨_, rfl, ?_⟩
  have HR10 := Aside0.mk (HR9.out.below hb)
  have HX10 := Aside0.mk (HX9.out.below hb)
  have HY10 := Aside0.mk (HY9.out.below hb)
  have HB10 := Aside0.mk (below_step HB9.out hb)
  clear hb HR9 HX9 HY9 HB9 T
  have T := cells15 HR10.out HX10.out HY10.out
  refine hK.out _ _ ⟨T.1, T.2.1, T.2.2.1, T.2.2.2.1, T.2.2.2.2.1, T.2.2.2.2.2.1, T.2.2.2.2.2.2.1, T.2.2.2.2.2.2.2.1, T.2.2.2.2.2.2.2.2.1, T.2.2.2.2.2.2.2.2.2.1, T.2.2.2.2.2.2.2.2.2.2.1, T.2.2.2.2.2.2.2.2.2.2.2.1, T.2.2.2.2.2.2.2.2.2.2.2.2.1, T.2.2.2.2.2.2.2.2.2.2.2.2.2.1, T.2.2.2.2.2.2.2.2.2.2.2.2.2.2⟩ (fun hHeld => ?_)
  clear hK K
  refine norm_ (a' := ?_) ?_ ?_
  rotate_left
  · show Act.put _ (some 79) _ = _
    simp only [Act.put, List.setIfInBounds_toArray, List.set_cons_zero, List.set_cons_succ, i64_w, i32_w]
    rfl
  refine pure_ (i := 29) (N := some 80) (v := ?_) (a' := ?_) #[true, true, true, true, true, true, true, true, true, true, true, true, true, true, true, true, true, true, true, true, true, true, true, true, true, true, true, true, true, true, false, false, false, false, false, false, false, false, false, false, false, false, false, false] rfl rfl (by kernel_rfl) (fun _ _ _ h => h) (Or.inl ⟨by rfl, ?_⟩) ?_ ?_
  rotate_left
  · intro w'
    go_simp
    with_reducible rfl
  rotate_left
  · simp only [Act.put, List.setIfInBounds_toArray, List.set_cons_zero, List.set_cons_succ, i64_w, i32_w]
    rfl
  refine pure_ (i := 30) (N := some 81) (v := ?_) (a' := ?_) #[true, true, true, true, true, true, true, true, true, true, true, true, true, true, true, true, true, true, true, true, true, true, true, true, true, true, true, true, true, true, true, false, false, false, false, false, false, false, false, false, false, false, false, false] rfl rfl (by kernel_rfl) (fun _ _ _ h => h) (Or.inl ⟨by rfl, ?_⟩) ?_ ?_
  rotate_left
  · intro w'
    go_simp
    with_reducible rfl
  rotate_left
  · simp only [Act.put, List.setIfInBounds_toArray, List.set_cons_zero, List.set_cons_succ, i64_w, i32_w]
    rfl
  refine pure_ (i := 31) (N := some 82) (v := ?_) (a' := ?_) #[true, true, true, true, true, true, true, true, true, true, true, true, true, true, true, true, true, true, true, true, true, true, true, true, true, true, true, true, true, true, true, true, false, false, false, false, false, false, false, false, false, false, false, false] rfl rfl (by kernel_rfl) (fun _ _ _ h => h) (Or.inl ⟨by rfl, ?_⟩) ?_ ?_
  rotate_left
  · intro w'
    go_simp
    with_reducible rfl
  rotate_left
  · simp only [Act.put, List.setIfInBounds_toArray, List.set_cons_zero, List.set_cons_succ, i64_w, i32_w]
    rfl
  refine pure_ (i := 32) (N := some 83) (v := ?_) (a' := ?_) #[true, true, true, true, true, true, true, true, true, true, true, true, true, true, true, true, true, true, true, true, true, true, true, true, true, true, true, true, true, true, true, true, true, false, false, false, false, false, false, false, false, false, false, false] rfl rfl (by kernel_rfl) (fun _ _ _ h => h) (Or.inl ⟨by rfl, ?_⟩) ?_ ?_
  rotate_left
  · intro w'
    go_simp
    with_reducible rfl
  rotate_left
  · simp only [Act.put, List.setIfInBounds_toArray, List.set_cons_zero, List.set_cons_succ, i64_w, i32_w]
    rfl
  refine pure_ (i := 33) (N := some 84) (v := ?_) (a' := ?_) #[true, true, true, true, true, true, true, true, true, true, true, true, true, true, true, true, true, true, true, true, true, true, true, true, true, true, true, true, true, true, true, true, true, true, false, false, false, false, false, false, false, false, false, false] rfl rfl (by kernel_rfl) (fun _ _ _ h => h) (Or.inl ⟨by rfl, ?_⟩) ?_ ?_
  rotate_left
  · intro w'
    go_simp
    with_reducible rfl
  rotate_left
  · simp only [Act.put, List.setIfInBounds_toArray, List.set_cons_zero, List.set_cons_succ, i64_w, i32_w]
    rfl
  refine pure_ (i := 34) (N := some 85) (v := ?_) (a' := ?_) #[true, true, true, true, true, true, true, true, true, true, true, true, true, true, true, true, true, true, true, true, true, true, true, true, true, true, true, true, true, true, true, true, true, true, true, false, false, false, false, false, false, false, false, false] rfl rfl (by kernel_rfl) (fun _ _ _ h => h) (Or.inl ⟨by rfl, ?_⟩) ?_ ?_
  rotate_left
  · intro w'
    go_simp
    with_reducible rfl
  rotate_left
  · simp only [Act.put, List.setIfInBounds_toArray, List.set_cons_zero, List.set_cons_succ, i64_w, i32_w]
    rfl
  refine pure_ (i := 35) (N := some 86) (v := ?_) (a' := ?_) #[true, true, true, true, true, true, true, true, true, true, true, true, true, true, true, true, true, true, true, true, true, true, true, true, true, true, true, true, true, true, true, true, true, true, true, true, false, false, false, false, false, false, false, false] rfl rfl (by kernel_rfl) (fun _ _ _ h => h) (Or.inl ⟨by rfl, ?_⟩) ?_ ?_
  rotate_left
  · intro w'
    go_simp
    with_reducible rfl
  rotate_left
  · simp only [Act.put, List.setIfInBounds_toArray, List.set_cons_zero, List.set_cons_succ, i64_w, i32_w]
    rfl
  refine pure_ (i := 36) (N := some 87) (v := ?_) (a' := ?_) #[true, true, true, true, true, true, true, true, true, true, true, true, true, true, true, true, true, true, true, true, true, true, true, true, true, true, true, true, true, true, true, true, true, true, true, true, true, false, false, false, false, false, false, false] rfl rfl (by kernel_rfl) (fun _ _ _ h => h) (Or.inl ⟨by rfl, ?_⟩) ?_ ?_
  rotate_left
  · intro w'
    go_simp
    with_reducible rfl
  rotate_left
  · simp only [Act.put, List.setIfInBounds_toArray, List.set_cons_zero, List.set_cons_succ, i64_w, i32_w]
    rfl
  refine pure_ (i := 37) (N := some 88) (v := ?_) (a' := ?_) #[true, true, true, true, true, true, true, true, true, true, true, true, true, true, true, true, true, true, true, true, true, true, true, true, true, true, true, true, true, true, true, true, true, true, true, true, true, true, false, false, false, false, false, false] rfl rfl (by kernel_rfl) (fun _ _ _ h => h) (Or.inl ⟨by rfl, ?_⟩) ?_ ?_
  rotate_left
  · intro w'
    go_simp
    with_reducible rfl
  rotate_left
  · simp only [Act.put, List.setIfInBounds_toArray, List.set_cons_zero, List.set_cons_succ, i64_w, i32_w]
    rfl
  refine pure_ (i := 38) (N := some 89) (v := ?_) (a' := ?_) #[true, true, true, true, true, true, true, true, true, true, true, true, true, true, true, true, true, true, true, true, true, true, true, true, true, true, true, true, true, true, true, true, true, true, true, true, true, true, true, false, false, false, false, false] rfl rfl (by kernel_rfl) (fun _ _ _ h => h) (Or.inl ⟨by rfl, ?_⟩) ?_ ?_
  rotate_left
  · intro w'
    go_simp
    with_reducible rfl
  rotate_left
  · simp only [Act.put, List.setIfInBounds_toArray, List.set_cons_zero, List.set_cons_succ, i64_w, i32_w]
    rfl
  refine pure_ (i := 39) (N := some 90) (v := ?_) (a' := ?_) #[true, true, true, true, true, true, true, true, true, true, true, true, true, true, true, true, true, true, true, true, true, true, true, true, true, true, true, true, true, true, true, true, true, true, true, true, true, true, true, true, false, false, false, false] rfl rfl (by kernel_rfl) (fun _ _ _ h => h) (Or.inl ⟨by rfl, ?_⟩) ?_ ?_
  rotate_left
  · intro w'
    go_simp
    with_reducible rfl
  rotate_left
  · simp only [Act.put, List.setIfInBounds_toArray, List.set_cons_zero, List.set_cons_succ, i64_w, i32_w]
    rfl
  refine pure_ (i := 40) (N := some 91) (v := ?_) (a' := ?_) #[true, true, true, true, true, true, true, true, true, true, true, true, true, true, true, true, true, true, true, true, true, true, true, true, true, true, true, true, true, true, true, true, true, true, true, true, true, true, true, true, true, false, false, false] rfl rfl (by kernel_rfl) (fun _ _ _ h => h) (Or.inl ⟨by rfl, ?_⟩) ?_ ?_
  rotate_left
  · intro w'
    go_simp
    with_reducible rfl
  rotate_left
  · simp only [Act.put, List.setIfInBounds_toArray, List.set_cons_zero, List.set_cons_succ, i64_w, i32_w]
    rfl
  refine one_ (i := 41) (N := some 92) #[true, true, true, true, true, true, true, true, true, true, true, true, true, true, true, true, true, true, true, true, true, true, true, true, true, true, true, true, true, true, true, true, true, true, true, true, true, true, true, true, true, true, false, false] rfl rfl (by kernel_rfl) (by decide) (fun K hK => ?_)
  refine goes_ Try.func9 (by kernel_rfl) rfl #[] (by rfl) rfl rfl (by (try simp only [List.map_toArray, List.map_cons, List.map_nil]); first | done | rfl) ?_
  refine (cloisterlaw11_awake.calls k true _ hAw.out).mono ?_
  rintro e' w10 ⟨rfl, hb⟩
  refine ⟨_, rfl, ?_⟩
  have HR11 := Aside0.mk (HR10.out.below hb)
  have HX11 := Aside0.mk (HX10.out.below hb)
  have HY11 := Aside0.mk (HY10.out.below hb)
  have HB11 := Aside0.mk (below_step HB10.out hb)
  clear hb HR10 HX10 HY10 HB10 T
  have T := cells15 HR11.out HX11.out HY11.out
  refine hK.out _ _ ⟨T.1, T.2.1, T.2.2.1, T.2.2.2.1, T.2.2.2.2.1, T.2.2.2.2.2.1, T.2.2.2.2.2.2.1, T.2.2.2.2.2.2.2.1, T.2.2.2.2.2.2.2.2.1, T.2.2.2.2.2.2.2.2.2.1, T.2.2.2.2.2.2.2.2.2.2.1, T.2.2.2.2.2.2.2.2.2.2.2.1, T.2.2.2.2.2.2.2.2.2.2.2.2.1, T.2.2.2.2.2.2.2.2.2.2.2.2.2.1, T.2.2.2.2.2.2.2.2.2.2.2.2.2.2⟩ (fun hHeld => ?_)
  clear hK K
  refine norm_ (a' := ?_) ?_ ?_
  rotate_left
  · show Act.put _ (some 92) _ = _
    simp only [Act.put, List.setIfInBounds_toArray, List.set_cons_zero, List.set_cons_succ, i64_w, i32_w]
    rfl
  refine pure_ (i := 42) (N := some 93) (v := ?_) (a' := ?_) #[true, true, true, true, true, true, true, true, true, true, true, true, true, true, true, true, true, true, true, true, true, true, true, true, true, true, true, true, true, true, true, true, true, true, true, true, true, true, true, true, true, true, true, false] rfl rfl (by kernel_rfl) (fun _ _ _ h => h) (Or.inl ⟨by rfl, ?_⟩) ?_ ?_
  rotate_left
  · intro w'
    go_simp
    with_reducible rfl
  rotate_left
  · simp only [Act.put, List.setIfInBounds_toArray, List.set_cons_zero, List.set_cons_succ, i64_w, i32_w]
    rfl
  refine pure_ (i := 43) (N := some 4) (v := ?_) (a' := ?_) #[true, true, true, true, true, true, true, true, true, true, true, true, true, true, true, true, true, true, true, true, true, true, true, true, true, true, true, true, true, true, true, true, true, true, true, true, true, true, true, true, true, true, true, true] rfl rfl (by kernel_rfl) (fun _ _ _ h => h) (Or.inl ⟨by rfl, ?_⟩) ?_ ?_
  rotate_left
  · intro w'
    go_simp
    with_reducible rfl
  rotate_left
  · simp only [Act.put, List.setIfInBounds_toArray, List.set_cons_zero, List.set_cons_succ, i64_w, i32_w]
    rfl
  refine done_ (by kernel_rfl) ?_

  have HB := HB11
  clear HR11 HX11 HY11 T
  go_wp2
  go_ret
  exact ⟨rfl, HB.out⟩
end Go.Proofs.Ythphoifaingbkaa.PB
