/- The law function RowCounts by hand, on the path where it answers true. -/
import Derived.Test.YthphoifaingbkaaPQx2
namespace Go.Proofs.Ythphoifaingbkaa.PQ
open Go.RowKit Go.Proofs.YthphoifaingbkaaW.PrintWords Go.Proofs.YthphoifaingbkaaW.PrintLast Go.Proofs.YthphoifaingbkaaW.PrintMore
set_option linter.unusedVariables false
set_option linter.unusedSimpArgs false
theorem lt_of_block {w : World} {g : Nat} {o : Obj} (h : w.heap[g]? = some o) : g < w.heap.size := (Array.getElem?_eq_some_iff.1 h).1
def rowObj (key : ByteArray) (v1 v2 v3 : Value) (who : Int) : Obj := .cells #[.string key, v1, v2, v3, .int .i64 who] 27 (0, 0)
def RowBox (W : World) (g : Nat) (key : ByteArray) (v1 v2 v3 : Value) (who : Int) : Prop := W.heap[g]? = some (rowObj key v1 v2 v3 who)
theorem RowBox.cells {W : World} {g : Nat} {key : ByteArray} {v1 v2 v3 : Value} {who : Int} (h : RowBox W g key v1 v2 v3 who) : W.cell? ⟨g, 0, none⟩ = some (.string key) ∧ W.cell? ⟨g, 1, none⟩ = some v1 ∧ W.cell? ⟨g, 2, none⟩ = some v2 ∧ W.cell? ⟨g, 3, none⟩ = some v3 ∧ W.cell? ⟨g, 4, none⟩ = some (.int .i64 who) := by
  unfold RowBox at h
  simp [World.cell?, h, rowObj]
theorem RowBox.free {W : World} {g : Nat} {key : ByteArray} {v1 v2 v3 : Value} {who : Int} (h : RowBox W g key v1 v2 v3 who) : W.frozen? ⟨g, 1, none⟩ = false := by
  unfold RowBox at h
  simp [World.frozen?, h, rowObj]
theorem RowBox.below {W W' : World} {g : Nat} {key : ByteArray} {v1 v2 v3 : Value} {who : Int} (h : RowBox W g key v1 v2 v3 who) (hb : Below W.heap.size W W') : RowBox W' g key v1 v2 v3 who := (hb.block g (lt_of_block h)).trans h
theorem RowBox.grown {W W' : World} {g : Nat} {key : ByteArray} {v1 v2 v3 : Value} {who : Int} {row : Option Nat} (h : RowBox W g key v1 v2 v3 who) (hg : W.grownBy W' row) (hr : some g ≠ row) : RowBox W' g key v1 v2 v3 who := (hg.block g (lt_of_block h) hr).trans h
theorem RowBox.set1 {W : World} {g : Nat} {key : ByteArray} {v1 v2 v3 : Value} {who : Int} (h : RowBox W g key v1 v2 v3 who) (u : Value) : RowBox (W.setCell ⟨g, 1, none⟩ u) g key u v2 v3 who := by
  unfold RowBox World.setCell at *
  simp only [Array.getElem?_modify, if_true, h, rowObj, Option.map_some]
  rfl
theorem RowBox.other {W : World} {g g' i : Nat} {key : ByteArray} {v1 v2 v3 : Value} {who : Int} (h : RowBox W g key v1 v2 v3 who) (u : Value) (hne : g ≠ g') : RowBox (W.setCell ⟨g', i, none⟩ u) g key v1 v2 v3 who := by
  unfold RowBox at *
  rw [Below.heap_setCell W _ u g hne]; exact h
theorem RowBox.new (W : World) (key : ByteArray) (v1 v2 v3 : Value) (who : Int) : RowBox (W.alloc (.cells #[.string key, v1, v2, v3, .int .i64 who] 27)) W.heap.size key v1 v2 v3 who := Go.heap_alloc_new W _
def sumB (key : ByteArray) (l : List ByteArray) : Int := (key.size : Int) + (l.map fun c => (c.size : Int)).sum
structure CountsP (k : Nat) (key : ByteArray) (cl : List ByteArray) (S I : List Int) (who : Int) (more : ByteArray) (n e : Int) : Prop where
  size : row_Size.f k key cl S I who = some (n, e)
  awake : cloisterlaw11_awake.f k = some true
  bad : e ≠ 0 → cloisterref11_May.f k key cl S I who = some false ∧ n = 0
  good : e = 0 → key.size ≤ 64 ∧ cl.length ≤ 8 ∧ (∀ c ∈ cl, c.size ≤ 256) ∧ more.size ≤ 1048576 ∧ n = sumB key cl + 16 ∧ ∃ m f, row_Size.f k key (cl ++ [more]) S I who = some (m, f) ∧ (cl.length = 8 ∨ more.size > 256 → f = 110) ∧ (¬ (cl.length = 8 ∨ more.size > 256) → f = 0 ∧ m = n + more.size)
open Classical in
noncomputable def RowCountsH.f (k : Nat) (key : ByteArray) (cl : List ByteArray) (S I : List Int) (who : Int) (more : ByteArray) : Option Bool := if ∃ n e, CountsP k key cl S I who more n e then some true else none
theorem heap_set_size (w : World) (p : Addr) (v : Value) : (w.setCell p v).heap.size = w.heap.size := by
  unfold World.setCell
  split <;> simp
theorem ret_true {b : Bool} (h : b = true) : Ending.returned (.bool b) = .returned (.bool true) := by rw [h]

set_option maxHeartbeats 16000000 in
set_option maxRecDepth 100000 in
theorem counts_bad (k : Nat) (key : ByteArray) (A1 : Option Addr) (c1 : Nat) (cl : List ByteArray) (A2 : Option Addr) (c2 : Nat) (S : List Int) (A3 : Option Addr) (c3 : Nat) (I : List Int) (who : Int) (more : ByteArray) (w : World) (hr1 : Kd.C Kd.string w A1 cl.length cl) (hc1 : cl.length ≤ c1) (hr2 : Kd.C (Kd.int .i64) w A2 S.length S) (hc2 : S.length ≤ c2) (hr3 : Kd.C (Kd.int .i64) w A3 I.length I) (hc3 : I.length ≤ c3)
    (e : Int) (he : e ≠ 0) (hs : row_Size.f k key cl S I who = some (0, e)) (hm : cloisterref11_May.f k key cl S I who = some false) (ha : cloisterlaw11_awake.f k = some true) :
    Calls Try.prog 3 #[.agg #[.string key, .slice A1 cl.length c1, .slice A2 S.length c2, .slice A3 I.length c3, .int .i64 who], .string more] w fun e w' => e = .returned (.bool true) ∧ Below w.heap.size w w' := by
  have hu27 := Try.underlying27
  have H1 := Aside0.mk hr1; have H2 := Aside0.mk hr2; have H3 := Aside0.mk hr3; have K1 := Aside0.mk hc1; have K2 := Aside0.mk hc2; have K3 := Aside0.mk hc3
  have HS := Aside0.mk hs; have HM := Aside0.mk hm; have HA := Aside0.mk ha
  have e1 : (e != 0) = true := by simpa using he
  clear hr1 hr2 hr3 hc1 hc2 hc3 hs hm ha he
  go_enter Try.func3, Try.ntmps3
  go_wp2_with (first
    | (go_at_call 7; refine (row_Size.calls k key _ _ cl _ _ S _ _ I who 0 e _ (Kd.C_alloc H1.out _) K1.out (Kd.C_alloc H2.out _) K2.out (Kd.C_alloc H3.out _) K3.out HS.out).mono ?_; rintro e' w1 ⟨rfl, hb⟩; have HB1 := Aside0.mk (below_step (below_alloc (Below.refl _ _) _) hb); have HR1 := Aside0.mk ((RowBox.new w key (.slice A1 cl.length c1) (.slice A2 S.length c2) (.slice A3 I.length c3) who).below hb); obtain ⟨r0, r1, r2, r3, r4⟩ := HR1.out.cells; clear hb)
    | (go_at_call 8; refine (cloisterref11_May.calls k key _ _ cl _ _ S _ _ I who false _ (Kd.C_below H1.out HB1.out) K1.out (Kd.C_below H2.out HB1.out) K2.out (Kd.C_below H3.out HB1.out) K3.out HM.out).mono ?_; rintro e' w2 ⟨rfl, hb⟩; have HB2 := Aside0.mk (below_step HB1.out hb); clear hb)
    | (go_at_call 9; refine (cloisterlaw11_awake.calls k true _ HA.out).mono ?_; rintro e' w3 ⟨rfl, hb⟩; have HB3 := Aside0.mk (below_step HB2.out hb); clear hb))
  go_ret
  exact ⟨rfl, HB3.out⟩
theorem sum_take (key : ByteArray) (l : List ByteArray) (i : Nat) (h : i < l.length) : sumB key (l.take (i + 1)) = sumB key (l.take i) + (l[i].size : Int) := by
  unfold sumB
  rw [List.take_succ_eq_append_getElem h, List.map_append, List.sum_append, List.map_cons, List.map_nil, List.sum_cons, List.sum_nil]; omega
theorem sum_bound (key : ByteArray) (l : List ByteArray) (i : Nat) (hk : key.size ≤ 64) (hl : l.length ≤ 8) (hc : ∀ c ∈ l, c.size ≤ 256) : 0 ≤ sumB key (l.take i) ∧ sumB key (l.take i) ≤ 2112 := by
  have h : ∀ m : List ByteArray, (∀ c ∈ m, c.size ≤ 256) → 0 ≤ (m.map fun c => (c.size : Int)).sum ∧ (m.map fun c => (c.size : Int)).sum ≤ 256 * m.length := by
    intro m
    induction m with
    | nil => intro _; simp
    | cons x r ih =>
      intro hm
      have h1 := ih (fun c hc => hm c (List.mem_cons_of_mem _ hc))
      have h2 := hm x List.mem_cons_self
      simp only [List.map_cons, List.sum_cons, List.length_cons]; omega
  have h1 := h (l.take i) (fun c hc' => hc c (List.mem_of_mem_take hc'))
  have h2 := List.length_take_le' i l
  unfold sumB; omega
theorem info9s : (Try.prog.info? 9).map (fun i => (i.zero, i.size, i.bytes)) = some (some (.string ⟨#[]⟩), Kd.string.sz, 16) := by kernel_rfl
set_option maxHeartbeats 16000000 in
set_option maxRecDepth 100000 in
theorem counts_good (k : Nat) (key : ByteArray) (A1 : Option Addr) (c1 : Nat) (cl : List ByteArray) (A2 : Option Addr) (c2 : Nat) (S : List Int) (A3 : Option Addr) (c3 : Nat) (I : List Int) (who : Int) (more : ByteArray) (w : World) (hr1 : Kd.C Kd.string w A1 cl.length cl) (hc1 : cl.length ≤ c1) (hr2 : Kd.C (Kd.int .i64) w A2 S.length S) (hc2 : S.length ≤ c2) (hr3 : Kd.C (Kd.int .i64) w A3 I.length I) (hc3 : I.length ≤ c3)
    (n m f : Int) (hs : row_Size.f k key cl S I who = some (n, 0)) (ha : cloisterlaw11_awake.f k = some true) (hkey : key.size ≤ 64) (hcl : cl.length ≤ 8) (hcs : ∀ c ∈ cl, c.size ≤ 256) (hmore : more.size ≤ 1048576) (hn : n = sumB key cl + 16)
    (hs2 : row_Size.f k key (cl ++ [more]) S I who = some (m, f)) (h8 : cl.length = 8 ∨ more.size > 256 → f = 110) (h7 : ¬ (cl.length = 8 ∨ more.size > 256) → f = 0 ∧ m = n + more.size) :
    Calls Try.prog 3 #[.agg #[.string key, .slice A1 cl.length c1, .slice A2 S.length c2, .slice A3 I.length c3, .int .i64 who], .string more] w fun e w' => e = .returned (.bool true) ∧ Below w.heap.size w w' := by
  have hu27 := Try.underlying27
  have H1 := Aside0.mk hr1; have H2 := Aside0.mk hr2; have H3 := Aside0.mk hr3; have K1 := Aside0.mk hc1; have K2 := Aside0.mk hc2; have K3 := Aside0.mk hc3
  subst hn
  have HS := Aside0.mk hs; have HS2 := Aside0.mk hs2; have HA := Aside0.mk ha; have HCL := Aside0.mk hcl; have HKEY := Aside0.mk hkey; have HCS := Aside0.mk hcs; have HMORE := Aside0.mk hmore; have H8 := Aside0.mk h8; have H7 := Aside0.mk h7
  have hsb := sum_bound key cl cl.length hkey hcl hcs
  rw [List.take_length] at hsb
  have HSB := Aside0.mk hsb
  clear hr1 hr2 hr3 hc1 hc2 hc3 hs hs2 ha hcl hkey hcs hmore h8 h7 hsb
  go_enter Try.func3, Try.ntmps3
  go_wp2_with (first
    | (go_at_call 7; refine (row_Size.calls k key _ _ cl _ _ S _ _ I who (sumB key cl + 16) 0 _ (Kd.C_alloc H1.out _) K1.out (Kd.C_alloc H2.out _) K2.out (Kd.C_alloc H3.out _) K3.out HS.out).mono ?_; rintro e' w1 ⟨rfl, hb⟩; have HB1 := Aside0.mk (below_step (below_alloc (Below.refl _ _) _) hb); have HR1 := Aside0.mk ((RowBox.new w key (.slice A1 cl.length c1) (.slice A2 S.length c2) (.slice A3 I.length c3) who).below hb); obtain ⟨r0, r1, r2, r3, r4⟩ := HR1.out.cells; clear hb))
  go_loopg [7, 8] 10 (fun kq v7 v8 w' => ∃ i : Nat, v8 = .int .i64 (i : Int) ∧ v7 = .int .i64 (sumB key (cl.take i)) ∧ Aside0 (kq + i = 10 ∧ i ≤ cl.length) ∧ Aside0 (RowBox w' w.heap.size key (.slice A1 cl.length c1) (.slice A2 S.length c2) (.slice A3 I.length c3) who) ∧ Aside0 (Below w.heap.size w w'))
  case atStart => exact ⟨0, rfl, by simp [sumB], ⟨by omega, by omega⟩, HR1, HB1⟩
  case round =>
    clear HR1 HB1 r0 r1 r2 r3 r4
    obtain ⟨i, rfl, rfl, HK, HR, HB⟩ := hrel
    obtain ⟨r0, r1, r2, r3, r4⟩ := HR.out.cells
    by_cases hi : i < cl.length
    · obtain ⟨ad, rfl, hx0⟩ := Kd.at_string (Kd.C_below H1.out HB.out) (i : Int) (by omega) (by omega)
      have hi0 : decide ((i : Int) < (cl.length : Int)) = true := decide_eq_true (by omega)
      have hi1 : decide (i < cl.length) = true := decide_eq_true hi
      have hi2 : 0 ≤ (i : Int) := by omega
      have hi3 : (i : Int) < (cl.length : Int) := by omega
      have hi4 : (i : Int) ≤ 8 := by have := HCL.out; omega
      have hrd : rdOf ByteArray.empty cl (i : Int) = cl[i] := by simp [rdOf, List.getD_eq_getElem?_getD, List.getElem?_eq_getElem hi]
      rw [hrd] at hx0
      simp only [Int.toNat_natCast] at hx0
      have hsz := HCS.out cl[i] (List.getElem_mem hi)
      have HT := Aside0.mk (sum_take key cl i hi)
      have hb0 := sum_bound key cl i HKEY.out HCL.out HCS.out
      clear hrd
      generalize cl[i] = x at hx0 hsz HT
      generalize sumB key (cl.take i) = t at *
      obtain ⟨hb1, hb2⟩ := hb0
      have hsz2 : (x.size : Int) ≤ 256 := by omega
      go_wp2
      go_roundg (gk - 1)
      case measure => have := HK.out; have := HCL.out; omega
      case rel => exact ⟨i + 1, by go_num, by rw [HT.out], ⟨by have := HK.out; have := HCL.out; omega, by omega⟩, HR, HB⟩
    · have hi0 : decide ((i : Int) < (cl.length : Int)) = false := decide_eq_false (by omega)
      have hi1 : decide (i < cl.length) = false := decide_eq_false hi
      have het : cl.take i = cl := List.take_of_length_le (by omega)
      rw [het]
      clear het
      have hg : w.heap.size < wr.heap.size := lt_of_block HR.out
      have HG := Aside0.mk hg
      have n1 : (wr.heap.size = w.heap.size) = False := eq_false (by omega)
      have n2 : (w.heap.size = wr.heap.size) = False := eq_false (by omega)
      clear hg
      have HX := Aside0.mk (RowBox.new wr key (.slice none 0 0) (.slice A2 S.length c2) (.slice A3 I.length c3) who)
      have HRx := Aside0.mk (HR.out.below (below_alloc (Below.refl _ _) (.cells #[.string key, .slice none 0 0, .slice A2 S.length c2, .slice A3 I.length c3, .int .i64 who] 27)))
      have HBx := Aside0.mk (below_alloc HB.out (.cells #[.string key, .slice none 0 0, .slice A2 S.length c2, .slice A3 I.length c3, .int .i64 who] 27))
      obtain ⟨_, ra1, _⟩ := HRx.out.cells
      have hsb1 := HSB.out.1
      have hsb2 := HSB.out.2
      have hmo : (more.size : Int) ≤ 1048576 := by have := HMORE.out; omega
      by_cases h8 : cl.length = 8
      · obtain rfl : f = 110 := H8.out (.inl h8)
        have q1 : ((cl.length : Int) == 8) = true := by rw [h8]; rfl
        have q2 : (cl.length == 8) = true := by rw [h8]; rfl
        clear h8
        go_wp2_with (first
          | (at_builtin; refine Kd.R_append_rows Kd.string (w0 := w) w.heap.size rfl (.tmp 50) (.tmp 52) 22 9 (.string ⟨#[]⟩) 16 rfl Try.underlying22 info9s rfl (by decide) (by omega) (.slice none 0 0) [] cl A1 cl.length c1 (fun k_ => wr.heap.size + 1 ≤ k_) (fun _ => False) rfl rfl (Kd.R_nil _ _ _ _ _) (Kd.C_alloc (Kd.C_below H1.out HB.out) _) (fun _ _ h => h) (fun _ h => h.elim) (fun k_ hk => by simpa using hk) HBx.out (below_size HBx.out) (by have := HCL.out; simp; omega) ?_; intro v1 w9 ho hb hg hat; have HO := Aside0.mk (show Kd.R Kd.string 9 w9 w.heap.size (fun k_ => wr.heap.size + 1 ≤ k_) v1 cl from by simpa using ho); have HB9 := Aside0.mk hb; have HX9 := Aside0.mk (HX.out.grown hg (by simp [Value.ownBlock])); have HR9 := Aside0.mk (HRx.out.grown hg (by simp [Value.ownBlock])); clear ho hb hg hat; obtain ⟨Ao, co, eo⟩ := Kd.R_slice HO.out; subst eo; obtain ⟨_, x1, _⟩ := HX9.out.cells; have f1 := HX9.out.free; obtain ⟨_, y1, _⟩ := HR9.out.cells)
          | (at_builtin; have hX10 := HX9.out.set1 (.slice Ao cl.length co); have hR10 := HR9.out.other (i := 1) (.slice Ao cl.length co) (show w.heap.size ≠ wr.heap.size from by have := HG.out; omega); have hO10 := Kd.R_far HO.out (p := ⟨wr.heap.size, 1, none⟩) (fun k_ hk => by show k_ ≠ wr.heap.size; omega) (.slice Ao cl.length co); have hB10 : Below w.heap.size w (w9.setCell ⟨wr.heap.size, 1, none⟩ (.slice Ao cl.length co)) := HB9.out.setCell (by have := HG.out; show w.heap.size ≤ wr.heap.size; omega) _; have hz := lt_of_block HX9.out; refine Kd.R_append Kd.string (w0 := w) w.heap.size rfl (.tmp 56) (.tmp 58) 22 9 (.string ⟨#[]⟩) 16 rfl Try.underlying22 info9s rfl (by decide) (by omega) (.slice Ao cl.length co) cl more [.string more] (fun k_ => wr.heap.size + 1 ≤ k_) (fun _ => False) rfl (by rw [heap_set_size]; rfl) rfl (fun _ hk => hk.elim) (fun k_ hk => by rw [heap_set_size] at hk; omega) hO10 hB10 (below_size hB10) (by have := HCL.out; omega) ?_; intro v2 w11 ho hb hg hat; have HOo := Aside0.mk ho; have HB11 := Aside0.mk hb; have hne : ∀ g, g ≤ wr.heap.size → some g ≠ (Value.slice Ao cl.length co).ownBlock := (fun g hg2 e_ => by have := HO.out.1 g e_.symm; omega); have HX11 := Aside0.mk (hX10.grown hg (hne _ (Nat.le_refl _))); have HR11 := Aside0.mk (hR10.grown hg (hne _ (by have := HG.out; omega))); clear ho hb hg hat hne hX10 hR10 hO10 hB10 hz x1 f1 y1; obtain ⟨Ap, cp, Lp, ep⟩ : ∃ A c L, v2 = .slice A L c ∧ L = (cl ++ [more]).length := (by obtain ⟨A, c, e⟩ := Kd.R_slice HOo.out; exact ⟨A, c, _, e, rfl⟩); obtain ⟨ep, eL⟩ := ep; subst ep; have HLp := Aside0.mk eL; clear eL; obtain ⟨x0, x1, x2, x3, x4⟩ := HX11.out.cells; have f1 := HX11.out.free; obtain ⟨_, y1, _⟩ := HR11.out.cells)
          | (go_at_call 7; obtain rfl := HLp.out; have hO12 := Kd.R_far HOo.out (p := ⟨wr.heap.size, 1, none⟩) (fun k_ hk => by show k_ ≠ wr.heap.size; omega) (.slice Ap (cl ++ [more]).length cp); have hB12 : Below w.heap.size w (w11.setCell ⟨wr.heap.size, 1, none⟩ (.slice Ap (cl ++ [more]).length cp)) := HB11.out.setCell (by have := HG.out; show w.heap.size ≤ wr.heap.size; omega) _; have hrd := Kd.R_reads' hO12; refine (row_Size.calls k key _ _ (cl ++ [more]) _ _ S _ _ I who _ _ _ hrd.2.2 hrd.2.1 (Kd.C_below H2.out hB12) K2.out (Kd.C_below H3.out hB12) K3.out HS2.out).mono ?_; rintro e' w13 ⟨rfl, hb⟩; have HB13 := Aside0.mk (below_step hB12 hb); have HR13 := Aside0.mk ((HR11.out.other (i := 1) (.slice Ap (cl ++ [more]).length cp) (show w.heap.size ≠ wr.heap.size from by have := HG.out; omega)).below hb); clear hb hO12 hB12 hrd x0 x1 x2 x3 x4 f1 y1; obtain ⟨_, y1, _⟩ := HR13.out.cells)
          | (go_at_call 9; refine (cloisterlaw11_awake.calls k true _ HA.out).mono ?_; rintro e' w14 ⟨rfl, hb⟩; have HB14 := Aside0.mk (below_step HB13.out hb); clear hb))
        go_ret
        exact ⟨by first | rfl | (simp; done), HB14.out⟩
      · have q1 : ((cl.length : Int) == 8) = false := beq_eq_false_iff_ne.2 (by omega)
        have q2 : (cl.length == 8) = false := beq_eq_false_iff_ne.2 h8
        by_cases h9 : more.size > 256
        · obtain rfl : f = 110 := H8.out (.inr h9)
          have q3 : decide (256 < (more.size : Int)) = true := decide_eq_true (by omega)
          have q4 : decide (256 < more.size) = true := decide_eq_true h9
          clear h8 h9
          go_wp2_with (first
            | (at_builtin; refine Kd.R_append_rows Kd.string (w0 := w) w.heap.size rfl (.tmp 50) (.tmp 52) 22 9 (.string ⟨#[]⟩) 16 rfl Try.underlying22 info9s rfl (by decide) (by omega) (.slice none 0 0) [] cl A1 cl.length c1 (fun k_ => wr.heap.size + 1 ≤ k_) (fun _ => False) rfl rfl (Kd.R_nil _ _ _ _ _) (Kd.C_alloc (Kd.C_below H1.out HB.out) _) (fun _ _ h => h) (fun _ h => h.elim) (fun k_ hk => by simpa using hk) HBx.out (below_size HBx.out) (by have := HCL.out; simp; omega) ?_; intro v1 w9 ho hb hg hat; have HO := Aside0.mk (show Kd.R Kd.string 9 w9 w.heap.size (fun k_ => wr.heap.size + 1 ≤ k_) v1 cl from by simpa using ho); have HB9 := Aside0.mk hb; have HX9 := Aside0.mk (HX.out.grown hg (by simp [Value.ownBlock])); have HR9 := Aside0.mk (HRx.out.grown hg (by simp [Value.ownBlock])); clear ho hb hg hat; obtain ⟨Ao, co, eo⟩ := Kd.R_slice HO.out; subst eo; obtain ⟨_, x1, _⟩ := HX9.out.cells; have f1 := HX9.out.free; obtain ⟨_, y1, _⟩ := HR9.out.cells)
            | (at_builtin; have hX10 := HX9.out.set1 (.slice Ao cl.length co); have hR10 := HR9.out.other (i := 1) (.slice Ao cl.length co) (show w.heap.size ≠ wr.heap.size from by have := HG.out; omega); have hO10 := Kd.R_far HO.out (p := ⟨wr.heap.size, 1, none⟩) (fun k_ hk => by show k_ ≠ wr.heap.size; omega) (.slice Ao cl.length co); have hB10 : Below w.heap.size w (w9.setCell ⟨wr.heap.size, 1, none⟩ (.slice Ao cl.length co)) := HB9.out.setCell (by have := HG.out; show w.heap.size ≤ wr.heap.size; omega) _; have hz := lt_of_block HX9.out; refine Kd.R_append Kd.string (w0 := w) w.heap.size rfl (.tmp 56) (.tmp 58) 22 9 (.string ⟨#[]⟩) 16 rfl Try.underlying22 info9s rfl (by decide) (by omega) (.slice Ao cl.length co) cl more [.string more] (fun k_ => wr.heap.size + 1 ≤ k_) (fun _ => False) rfl (by rw [heap_set_size]; rfl) rfl (fun _ hk => hk.elim) (fun k_ hk => by rw [heap_set_size] at hk; omega) hO10 hB10 (below_size hB10) (by have := HCL.out; omega) ?_; intro v2 w11 ho hb hg hat; have HOo := Aside0.mk ho; have HB11 := Aside0.mk hb; have hne : ∀ g, g ≤ wr.heap.size → some g ≠ (Value.slice Ao cl.length co).ownBlock := (fun g hg2 e_ => by have := HO.out.1 g e_.symm; omega); have HX11 := Aside0.mk (hX10.grown hg (hne _ (Nat.le_refl _))); have HR11 := Aside0.mk (hR10.grown hg (hne _ (by have := HG.out; omega))); clear ho hb hg hat hne hX10 hR10 hO10 hB10 hz x1 f1 y1; obtain ⟨Ap, cp, Lp, ep⟩ : ∃ A c L, v2 = .slice A L c ∧ L = (cl ++ [more]).length := (by obtain ⟨A, c, e⟩ := Kd.R_slice HOo.out; exact ⟨A, c, _, e, rfl⟩); obtain ⟨ep, eL⟩ := ep; subst ep; have HLp := Aside0.mk eL; clear eL; obtain ⟨x0, x1, x2, x3, x4⟩ := HX11.out.cells; have f1 := HX11.out.free; obtain ⟨_, y1, _⟩ := HR11.out.cells)
            | (go_at_call 7; obtain rfl := HLp.out; have hO12 := Kd.R_far HOo.out (p := ⟨wr.heap.size, 1, none⟩) (fun k_ hk => by show k_ ≠ wr.heap.size; omega) (.slice Ap (cl ++ [more]).length cp); have hB12 : Below w.heap.size w (w11.setCell ⟨wr.heap.size, 1, none⟩ (.slice Ap (cl ++ [more]).length cp)) := HB11.out.setCell (by have := HG.out; show w.heap.size ≤ wr.heap.size; omega) _; have hrd := Kd.R_reads' hO12; refine (row_Size.calls k key _ _ (cl ++ [more]) _ _ S _ _ I who _ _ _ hrd.2.2 hrd.2.1 (Kd.C_below H2.out hB12) K2.out (Kd.C_below H3.out hB12) K3.out HS2.out).mono ?_; rintro e' w13 ⟨rfl, hb⟩; have HB13 := Aside0.mk (below_step hB12 hb); have HR13 := Aside0.mk ((HR11.out.other (i := 1) (.slice Ap (cl ++ [more]).length cp) (show w.heap.size ≠ wr.heap.size from by have := HG.out; omega)).below hb); clear hb hO12 hB12 hrd x0 x1 x2 x3 x4 f1 y1; obtain ⟨_, y1, _⟩ := HR13.out.cells)
            | (go_at_call 9; refine (cloisterlaw11_awake.calls k true _ HA.out).mono ?_; rintro e' w14 ⟨rfl, hb⟩; have HB14 := Aside0.mk (below_step HB13.out hb); clear hb))
          go_ret
          exact ⟨by first | rfl | (simp; done), HB14.out⟩
        · obtain ⟨rfl, rfl⟩ := H7.out (by rintro (h | h) <;> omega)
          have q3 : decide (256 < (more.size : Int)) = false := decide_eq_false (by omega)
          have q4 : decide (256 < more.size) = false := decide_eq_false h9
          clear h8 h9
          go_wp2_with (first
            | (at_builtin; refine Kd.R_append_rows Kd.string (w0 := w) w.heap.size rfl (.tmp 50) (.tmp 52) 22 9 (.string ⟨#[]⟩) 16 rfl Try.underlying22 info9s rfl (by decide) (by omega) (.slice none 0 0) [] cl A1 cl.length c1 (fun k_ => wr.heap.size + 1 ≤ k_) (fun _ => False) rfl rfl (Kd.R_nil _ _ _ _ _) (Kd.C_alloc (Kd.C_below H1.out HB.out) _) (fun _ _ h => h) (fun _ h => h.elim) (fun k_ hk => by simpa using hk) HBx.out (below_size HBx.out) (by have := HCL.out; simp; omega) ?_; intro v1 w9 ho hb hg hat; have HO := Aside0.mk (show Kd.R Kd.string 9 w9 w.heap.size (fun k_ => wr.heap.size + 1 ≤ k_) v1 cl from by simpa using ho); have HB9 := Aside0.mk hb; have HX9 := Aside0.mk (HX.out.grown hg (by simp [Value.ownBlock])); have HR9 := Aside0.mk (HRx.out.grown hg (by simp [Value.ownBlock])); clear ho hb hg hat; obtain ⟨Ao, co, eo⟩ := Kd.R_slice HO.out; subst eo; obtain ⟨_, x1, _⟩ := HX9.out.cells; have f1 := HX9.out.free; obtain ⟨_, y1, _⟩ := HR9.out.cells)
            | (at_builtin; have hX10 := HX9.out.set1 (.slice Ao cl.length co); have hR10 := HR9.out.other (i := 1) (.slice Ao cl.length co) (show w.heap.size ≠ wr.heap.size from by have := HG.out; omega); have hO10 := Kd.R_far HO.out (p := ⟨wr.heap.size, 1, none⟩) (fun k_ hk => by show k_ ≠ wr.heap.size; omega) (.slice Ao cl.length co); have hB10 : Below w.heap.size w (w9.setCell ⟨wr.heap.size, 1, none⟩ (.slice Ao cl.length co)) := HB9.out.setCell (by have := HG.out; show w.heap.size ≤ wr.heap.size; omega) _; have hz := lt_of_block HX9.out; refine Kd.R_append Kd.string (w0 := w) w.heap.size rfl (.tmp 56) (.tmp 58) 22 9 (.string ⟨#[]⟩) 16 rfl Try.underlying22 info9s rfl (by decide) (by omega) (.slice Ao cl.length co) cl more [.string more] (fun k_ => wr.heap.size + 1 ≤ k_) (fun _ => False) rfl (by rw [heap_set_size]; rfl) rfl (fun _ hk => hk.elim) (fun k_ hk => by rw [heap_set_size] at hk; omega) hO10 hB10 (below_size hB10) (by have := HCL.out; omega) ?_; intro v2 w11 ho hb hg hat; have HOo := Aside0.mk ho; have HB11 := Aside0.mk hb; have hne : ∀ g, g ≤ wr.heap.size → some g ≠ (Value.slice Ao cl.length co).ownBlock := (fun g hg2 e_ => by have := HO.out.1 g e_.symm; omega); have HX11 := Aside0.mk (hX10.grown hg (hne _ (Nat.le_refl _))); have HR11 := Aside0.mk (hR10.grown hg (hne _ (by have := HG.out; omega))); clear ho hb hg hat hne hX10 hR10 hO10 hB10 hz x1 f1 y1; obtain ⟨Ap, cp, Lp, ep⟩ : ∃ A c L, v2 = .slice A L c ∧ L = (cl ++ [more]).length := (by obtain ⟨A, c, e⟩ := Kd.R_slice HOo.out; exact ⟨A, c, _, e, rfl⟩); obtain ⟨ep, eL⟩ := ep; subst ep; have HLp := Aside0.mk eL; clear eL; obtain ⟨x0, x1, x2, x3, x4⟩ := HX11.out.cells; have f1 := HX11.out.free; obtain ⟨_, y1, _⟩ := HR11.out.cells)
            | (go_at_call 7; obtain rfl := HLp.out; have hO12 := Kd.R_far HOo.out (p := ⟨wr.heap.size, 1, none⟩) (fun k_ hk => by show k_ ≠ wr.heap.size; omega) (.slice Ap (cl ++ [more]).length cp); have hB12 : Below w.heap.size w (w11.setCell ⟨wr.heap.size, 1, none⟩ (.slice Ap (cl ++ [more]).length cp)) := HB11.out.setCell (by have := HG.out; show w.heap.size ≤ wr.heap.size; omega) _; have hrd := Kd.R_reads' hO12; refine (row_Size.calls k key _ _ (cl ++ [more]) _ _ S _ _ I who _ _ _ hrd.2.2 hrd.2.1 (Kd.C_below H2.out hB12) K2.out (Kd.C_below H3.out hB12) K3.out HS2.out).mono ?_; rintro e' w13 ⟨rfl, hb⟩; have HB13 := Aside0.mk (below_step hB12 hb); have HR13 := Aside0.mk ((HR11.out.other (i := 1) (.slice Ap (cl ++ [more]).length cp) (show w.heap.size ≠ wr.heap.size from by have := HG.out; omega)).below hb); clear hb hO12 hB12 hrd x0 x1 x2 x3 x4 f1 y1; obtain ⟨_, y1, _⟩ := HR13.out.cells)
            | (go_at_call 9; refine (cloisterlaw11_awake.calls k true _ HA.out).mono ?_; rintro e' w14 ⟨rfl, hb⟩; have HB14 := Aside0.mk (below_step HB13.out hb); clear hb))
          go_ret
          exact ⟨by first | rfl | (simp; done), HB14.out⟩
theorem RowCountsH.calls (k : Nat) (key : ByteArray) (A1 : Option Addr) (c1 : Nat) (cl : List ByteArray) (A2 : Option Addr) (c2 : Nat) (S : List Int) (A3 : Option Addr) (c3 : Nat) (I : List Int) (who : Int) (more : ByteArray) (r : Bool) (w : World) (hr1 : Kd.C Kd.string w A1 cl.length cl) (hc1 : cl.length ≤ c1) (hr2 : Kd.C (Kd.int .i64) w A2 S.length S) (hc2 : S.length ≤ c2) (hr3 : Kd.C (Kd.int .i64) w A3 I.length I) (hc3 : I.length ≤ c3) (h : RowCountsH.f k key cl S I who more = some true) :
    Calls Try.prog 3 #[.agg #[.string key, .slice A1 cl.length c1, .slice A2 S.length c2, .slice A3 I.length c3, .int .i64 who], .string more] w fun e w' => e = .returned (.bool true) ∧ Below w.heap.size w w' := by
  unfold RowCountsH.f at h
  split at h
  · rename_i hP
    obtain ⟨n, e, hP⟩ := hP
    by_cases he : e = 0
    · subst he
      obtain ⟨g1, g2, g3, g4, g5, m, f, g6, g7, g8⟩ := hP.good rfl
      exact counts_good k key A1 c1 cl A2 c2 S A3 c3 I who more w hr1 hc1 hr2 hc2 hr3 hc3 n m f hP.size hP.awake g1 g2 g3 g4 g5 g6 g7 g8
    · obtain ⟨g1, rfl⟩ := hP.bad he
      exact counts_bad k key A1 c1 cl A2 c2 S A3 c3 I who more w hr1 hc1 hr2 hc2 hr3 hc3 e he hP.size g1 hP.awake
  · cases h
end Go.Proofs.Ythphoifaingbkaa.PQ
