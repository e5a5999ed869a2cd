/- label.Parse: a label's text, read. -/
import Derived.Test.YtdmgcbelnnggbaaGreatDoorLabRead
import Derived.Test.YtdmgcbelnnggbaaGreatDoorSemLab
namespace Go.Proofs.YtdmgcbelnnggbaaGreatDoor.LabW
open Go.RowKit Go.Sort Go.Lib Go.Proofs.YtdmgcbelnnggbaaGreatDoorW.PrintWords Go.Proofs.YtdmgcbelnnggbaaGreatDoorW.PrintMore Go.Proofs.YtdmgcbelnnggbaaGreatDoor.LabF
set_option linter.unusedVariables false
set_option linter.unusedSimpArgs false
theorem readP (s : ByteArray) (hs : s.size ≤ 1048576) (w : World) (hE : Env w) : Calls Tryz.prog 64 #[.string s] w fun e w' => ∃ A c, e = .returned (.tuple #[.slice A ((readF s).getD []).length c, .bool (readF s).isSome]) ∧ Kd.R (Kd.int .i64) 3 w' w.heap.size (fun _ => True) (.slice A ((readF s).getD []).length c) ((readF s).getD []) ∧ Below w.heap.size w w' := by
  refine (read_calls s hs w hE).mono ?_
  intro e w' h
  cases hr : readF s with
  | some l =>
    rw [hr] at h
    obtain ⟨v, he, hR, hb⟩ := h
    obtain ⟨A, c, rfl⟩ := Kd.R_slice hR
    exact ⟨A, c, he, hR, hb⟩
  | none =>
    rw [hr] at h
    obtain ⟨he, hb⟩ := h
    exact ⟨none, 0, he, Kd.R_nil _ _ _ _ _, hb⟩
def preT (s : ByteArray) : ByteArray := ⟨(Lib.trimPrefix s.data.toList [123]).toArray⟩
def preB (s : ByteArray) : Bool := Lib.hasPrefix s.data.toList [123]
def sufT (s : ByteArray) : ByteArray := ⟨(Lib.trimSuffix s.data.toList [125]).toArray⟩
def sufB (s : ByteArray) : Bool := Lib.hasSuffix s.data.toList [125]
def cutA (s : ByteArray) : ByteArray := ⟨(Lib.cut s.data.toList [124]).1.toArray⟩
def cutZ (s : ByteArray) : ByteArray := ⟨(Lib.cut s.data.toList [124]).2.1.toArray⟩
def cutT (s : ByteArray) : Bool := (Lib.cut s.data.toList [124]).2.2
theorem R_far {e base n : Nat} {w : World} {ok : Nat → Prop} {v : Value} {l : List Int} (h : Kd.R (Kd.int .i64) e w base ok v l) (hn : n < base) : Kd.R (Kd.int .i64) e w base (fun k => n < k) v l := Kd.R_mono (Kd.R_bound h) (fun k hk => Nat.lt_of_lt_of_le hn hk.2.1)
theorem R_step2 {e base : Nat} {w w' : World} {ok : Nat → Prop} {v : Value} {l : List Int} (h : Kd.R (Kd.int .i64) e w base ok v l) (hb : Below w.heap.size w w') : Kd.R (Kd.int .i64) e w' base ok v l := Kd.R_step h (fun k _ hk => hb.block k hk)
theorem R_set {e base n j : Nat} {w : World} {v u : Value} {l : List Int} (h : Kd.R (Kd.int .i64) e w base (fun k => n < k) v l) : Kd.R (Kd.int .i64) e (w.setCell ⟨n, j, none⟩ u) base (fun k => n < k) v l := Kd.R_step h (fun k hk _ => Below.heap_setCell w ⟨n, j, none⟩ u k (by show k ≠ n; omega))
theorem below_drawn {w w' : World} {n : Nat} (h : w' = w.drewN n) : Below w.heap.size w w' := by rw [h]; exact ⟨rfl, rfl, rfl, Nat.le_refl _, fun _ _ => rfl⟩
set_option maxHeartbeats 4000000 in
set_option maxRecDepth 100000 in
theorem parse_try (s : ByteArray) (hs : s.size ≤ 1048576) (w : World) (hE : Env w) (h1 : (preT s).size ≤ 1048576) (h2 : (sufT (preT s)).size ≤ 1048576) (h3 : (cutA (sufT (preT s))).size ≤ 1048576) (h4 : (cutZ (sufT (preT s))).size ≤ 1048576) (P : Ending → World → Prop)
    (hno : ∀ w', (preB s && sufB (preT s) && cutT (sufT (preT s)) && (readF (cutA (sufT (preT s)))).isSome && (readF (cutZ (sufT (preT s)))).isSome) = false ∨ chkL ((readF (cutA (sufT (preT s)))).getD []) ((readF (cutZ (sufT (preT s)))).getD []) = 20 → Below w.heap.size w w' → P (.returned (.tuple #[.agg #[.slice none 0 0, .slice none 0 0], .int .i64 20])) w')
    (hyes : ∀ A c B d w', preB s = true → sufB (preT s) = true → cutT (sufT (preT s)) = true → (readF (cutA (sufT (preT s)))).isSome = true → (readF (cutZ (sufT (preT s)))).isSome = true → chkL ((readF (cutA (sufT (preT s)))).getD []) ((readF (cutZ (sufT (preT s)))).getD []) = 0 → ((readF (cutA (sufT (preT s)))).getD []).length ≤ c → ((readF (cutZ (sufT (preT s)))).getD []).length ≤ d →
      Kd.C (Kd.int .i64) w' A ((readF (cutA (sufT (preT s)))).getD []).length ((readF (cutA (sufT (preT s)))).getD []) → Kd.C (Kd.int .i64) w' B ((readF (cutZ (sufT (preT s)))).getD []).length ((readF (cutZ (sufT (preT s)))).getD []) → Below w.heap.size w w' → P (.returned (.tuple #[.agg #[.slice A ((readF (cutA (sufT (preT s)))).getD []).length c, .slice B ((readF (cutZ (sufT (preT s)))).getD []).length d], .int .i64 0])) w') :
    Calls Tryz.prog 35 #[.string s] w P := by
  have HNo := Aside0.mk hno
  have HYes := Aside0.mk hyes
  clear hno hyes
  have H1 := Aside0.mk (fun W => Tryz.strings_CutPrefix s ⟨#[123]⟩ W)
  have H2 := Aside0.mk (fun W => Tryz.strings_CutSuffix (preT s) ⟨#[125]⟩ W (by omega))
  have H3 := Aside0.mk (fun (W : World) (m : Int) (hm : W.cell? ⟨0, 0, none⟩ = some (.int .i64 m)) => Tryz.strings_Cut (sufT (preT s)) ⟨#[124]⟩ m W (by omega) hm)
  have H4 := Aside0.mk (fun (W : World) (hE : Env W) => readP (cutA (sufT (preT s))) h3 W hE)
  have H5 := Aside0.mk (fun (W : World) (hE : Env W) => readP (cutZ (sufT (preT s))) h4 W hE)
  have HE := Aside0.mk hE
  clear hs hE h1 h2 h3 h4
  change Aside0 (∀ W, Calls Tryz.prog 61 #[.string s, .string ⟨#[123]⟩] W fun e w' => e = .returned (.tuple #[.string (preT s), .bool (preB s)]) ∧ w' = W) at H1
  change Aside0 (∀ W, Calls Tryz.prog 62 #[.string (preT s), .string ⟨#[125]⟩] W fun e w' => e = .returned (.tuple #[.string (sufT (preT s)), .bool (sufB (preT s))]) ∧ w' = W) at H2
  change Aside0 (∀ (W : World) (m : Int) (hm : W.cell? ⟨0, 0, none⟩ = some (.int .i64 m)), Calls Tryz.prog 63 #[.string (sufT (preT s)), .string ⟨#[124]⟩] W fun e w' => e = .returned (.tuple #[.string (cutA (sufT (preT s))), .string (cutZ (sufT (preT s))), .bool (cutT (sufT (preT s)))]) ∧ ∃ n, w' = W.drewN n) at H3
  generalize preB s = bp at *
  generalize preT s = s1 at *
  generalize sufB s1 = bs at *
  generalize sufT s1 = s2 at *
  generalize cutT s2 = bt at *
  generalize cutA s2 = sa at *
  generalize cutZ s2 = sz at *
  generalize readF sa = ra at *
  generalize readF sz = rz at *
  obtain ⟨la, hla⟩ : ∃ la, ra.getD [] = la := ⟨_, rfl⟩
  obtain ⟨lz, hlz⟩ : ∃ lz, rz.getD [] = lz := ⟨_, rfl⟩
  obtain ⟨oa, hoa⟩ : ∃ oa, ra.isSome = oa := ⟨_, rfl⟩
  obtain ⟨oz, hoz⟩ : ∃ oz, rz.isSome = oz := ⟨_, rfl⟩
  simp only [hla, hlz, hoa, hoz] at H4 H5 HNo HYes
  clear hla hlz hoa hoz
  have HCk := Aside0.mk (Semlab.check_ev la lz).rounds
  have hB0 := below_alloc (Below.refl w.heap.size w) (.cells #[.slice none 0 0, .slice none 0 0] 24)
  obtain ⟨m, hm⟩ := (HE.out.below hB0).mx
  have HM := Aside0.mk hm
  have HE0 := Aside0.mk (HE.out.below hB0)
  have HX0 := Aside0.mk (heap_alloc_new w (.cells #[.slice none 0 0, .slice none 0 0] 24))
  have HB0 := Aside0.mk hB0
  clear hB0 hm HE
  cases bp with
  | false =>
    go_enter Tryz.func35, Tryz.ntmps35
    go_wp2_with (first
      | (go_at_call 61; (with_reducible refine (H1.out _).mono ?_); rintro e w' ⟨rfl, rfl⟩)
      | (go_at_call 62; (with_reducible refine (H2.out _).mono ?_); rintro e w' ⟨rfl, rfl⟩)
      | (go_at_call 63; (with_reducible refine (H3.out _ m HM.out).mono ?_); rintro e w1 ⟨rfl, n, hw⟩; have HB1 := Aside0.mk (below_drawn hw); clear hw)
      | (go_at_call 64; (with_reducible refine (H4.out w1 (HE0.out.below HB1.out)).mono ?_); rintro e w2 ⟨Aa, ca, rfl, hR, hb⟩; have HA := Aside0.mk (R_far (n := w.heap.size) hR (by have hz := HB1.out.size; simp at hz; omega)); have HB2 := Aside0.mk (below_step HB1.out hb); clear hR hb)
      | (go_at_call 64; (with_reducible refine (H5.out w2 (HE0.out.below HB2.out)).mono ?_); rintro e w3 ⟨Az, cz, rfl, hR, hb⟩; have HZ := Aside0.mk (R_far (n := w.heap.size) hR (by have hz := HB2.out.size; simp at hz; omega)); have HA3 := Aside0.mk (R_step2 HA.out hb); have HB3 := Aside0.mk (below_step HB2.out hb); clear hR hb; have hx := (HB3.out.block w.heap.size (by simp)).trans HX0.out; have x0 := blk_cell hx 0; have x1 := blk_cell hx 1; have y0 := blk_frozen hx 0; have y1 := blk_frozen hx 1; have HX3 := Aside0.mk hx; clear hx; have hlt : w.heap.size < w3.heap.size := by {have hz := HB3.out.size; simp at hz; omega}; have n1 := eq_false (Nat.ne_of_lt hlt); have n2 := eq_false (Nat.ne_of_gt hlt)))
    have hz := blk_alloc (blk_set (blk_set HX3.out 0 (.slice none 0 0)) 1 (.slice none 0 0)) (.cells #[.slice Aa la.length ca, .slice Az lz.length cz] 24)
    have c0 := (blk_cell hz 0).trans (show _ = some (Value.slice none 0 0) from rfl)
    have c1 := (blk_cell hz 1).trans (show _ = some (Value.slice none 0 0) from rfl)
    exact bodyPost_ret (v := .tuple #[.agg #[.slice none 0 0, .slice none 0 0], .int .i64 20]) (by simp [results, Tryz.results35, go_sem, c0, c1]) rfl (HNo.out _ (.inl (by simp)) (below_alloc (((below_step HB0.out HB3.out).setCell (p := ⟨w.heap.size, 0, none⟩) (Nat.le_refl _) _).setCell (p := ⟨w.heap.size, 1, none⟩) (Nat.le_refl _) _) _))
  | true =>
    cases bs with
    | false =>
      go_enter Tryz.func35, Tryz.ntmps35
      go_wp2_with (first
      | (go_at_call 61; (with_reducible refine (H1.out _).mono ?_); rintro e w' ⟨rfl, rfl⟩)
      | (go_at_call 62; (with_reducible refine (H2.out _).mono ?_); rintro e w' ⟨rfl, rfl⟩)
      | (go_at_call 63; (with_reducible refine (H3.out _ m HM.out).mono ?_); rintro e w1 ⟨rfl, n, hw⟩; have HB1 := Aside0.mk (below_drawn hw); clear hw)
      | (go_at_call 64; (with_reducible refine (H4.out w1 (HE0.out.below HB1.out)).mono ?_); rintro e w2 ⟨Aa, ca, rfl, hR, hb⟩; have HA := Aside0.mk (R_far (n := w.heap.size) hR (by have hz := HB1.out.size; simp at hz; omega)); have HB2 := Aside0.mk (below_step HB1.out hb); clear hR hb)
      | (go_at_call 64; (with_reducible refine (H5.out w2 (HE0.out.below HB2.out)).mono ?_); rintro e w3 ⟨Az, cz, rfl, hR, hb⟩; have HZ := Aside0.mk (R_far (n := w.heap.size) hR (by have hz := HB2.out.size; simp at hz; omega)); have HA3 := Aside0.mk (R_step2 HA.out hb); have HB3 := Aside0.mk (below_step HB2.out hb); clear hR hb; have hx := (HB3.out.block w.heap.size (by simp)).trans HX0.out; have x0 := blk_cell hx 0; have x1 := blk_cell hx 1; have y0 := blk_frozen hx 0; have y1 := blk_frozen hx 1; have HX3 := Aside0.mk hx; clear hx; have hlt : w.heap.size < w3.heap.size := by {have hz := HB3.out.size; simp at hz; omega}; have n1 := eq_false (Nat.ne_of_lt hlt); have n2 := eq_false (Nat.ne_of_gt hlt)))
      have hz := blk_alloc (blk_set (blk_set HX3.out 0 (.slice none 0 0)) 1 (.slice none 0 0)) (.cells #[.slice Aa la.length ca, .slice Az lz.length cz] 24)
      have c0 := (blk_cell hz 0).trans (show _ = some (Value.slice none 0 0) from rfl)
      have c1 := (blk_cell hz 1).trans (show _ = some (Value.slice none 0 0) from rfl)
      exact bodyPost_ret (v := .tuple #[.agg #[.slice none 0 0, .slice none 0 0], .int .i64 20]) (by simp [results, Tryz.results35, go_sem, c0, c1]) rfl (HNo.out _ (.inl (by simp)) (below_alloc (((below_step HB0.out HB3.out).setCell (p := ⟨w.heap.size, 0, none⟩) (Nat.le_refl _) _).setCell (p := ⟨w.heap.size, 1, none⟩) (Nat.le_refl _) _) _))
    | true =>
      cases bt with
      | false =>
        go_enter Tryz.func35, Tryz.ntmps35
        go_wp2_with (first
      | (go_at_call 61; (with_reducible refine (H1.out _).mono ?_); rintro e w' ⟨rfl, rfl⟩)
      | (go_at_call 62; (with_reducible refine (H2.out _).mono ?_); rintro e w' ⟨rfl, rfl⟩)
      | (go_at_call 63; (with_reducible refine (H3.out _ m HM.out).mono ?_); rintro e w1 ⟨rfl, n, hw⟩; have HB1 := Aside0.mk (below_drawn hw); clear hw)
      | (go_at_call 64; (with_reducible refine (H4.out w1 (HE0.out.below HB1.out)).mono ?_); rintro e w2 ⟨Aa, ca, rfl, hR, hb⟩; have HA := Aside0.mk (R_far (n := w.heap.size) hR (by have hz := HB1.out.size; simp at hz; omega)); have HB2 := Aside0.mk (below_step HB1.out hb); clear hR hb)
      | (go_at_call 64; (with_reducible refine (H5.out w2 (HE0.out.below HB2.out)).mono ?_); rintro e w3 ⟨Az, cz, rfl, hR, hb⟩; have HZ := Aside0.mk (R_far (n := w.heap.size) hR (by have hz := HB2.out.size; simp at hz; omega)); have HA3 := Aside0.mk (R_step2 HA.out hb); have HB3 := Aside0.mk (below_step HB2.out hb); clear hR hb; have hx := (HB3.out.block w.heap.size (by simp)).trans HX0.out; have x0 := blk_cell hx 0; have x1 := blk_cell hx 1; have y0 := blk_frozen hx 0; have y1 := blk_frozen hx 1; have HX3 := Aside0.mk hx; clear hx; have hlt : w.heap.size < w3.heap.size := by {have hz := HB3.out.size; simp at hz; omega}; have n1 := eq_false (Nat.ne_of_lt hlt); have n2 := eq_false (Nat.ne_of_gt hlt)))
        have hz := blk_alloc (blk_set (blk_set HX3.out 0 (.slice none 0 0)) 1 (.slice none 0 0)) (.cells #[.slice Aa la.length ca, .slice Az lz.length cz] 24)
        have c0 := (blk_cell hz 0).trans (show _ = some (Value.slice none 0 0) from rfl)
        have c1 := (blk_cell hz 1).trans (show _ = some (Value.slice none 0 0) from rfl)
        exact bodyPost_ret (v := .tuple #[.agg #[.slice none 0 0, .slice none 0 0], .int .i64 20]) (by simp [results, Tryz.results35, go_sem, c0, c1]) rfl (HNo.out _ (.inl (by simp)) (below_alloc (((below_step HB0.out HB3.out).setCell (p := ⟨w.heap.size, 0, none⟩) (Nat.le_refl _) _).setCell (p := ⟨w.heap.size, 1, none⟩) (Nat.le_refl _) _) _))
      | true =>
        cases oa with
        | false =>
          go_enter Tryz.func35, Tryz.ntmps35
          go_wp2_with (first
      | (go_at_call 61; (with_reducible refine (H1.out _).mono ?_); rintro e w' ⟨rfl, rfl⟩)
      | (go_at_call 62; (with_reducible refine (H2.out _).mono ?_); rintro e w' ⟨rfl, rfl⟩)
      | (go_at_call 63; (with_reducible refine (H3.out _ m HM.out).mono ?_); rintro e w1 ⟨rfl, n, hw⟩; have HB1 := Aside0.mk (below_drawn hw); clear hw)
      | (go_at_call 64; (with_reducible refine (H4.out w1 (HE0.out.below HB1.out)).mono ?_); rintro e w2 ⟨Aa, ca, rfl, hR, hb⟩; have HA := Aside0.mk (R_far (n := w.heap.size) hR (by have hz := HB1.out.size; simp at hz; omega)); have HB2 := Aside0.mk (below_step HB1.out hb); clear hR hb)
      | (go_at_call 64; (with_reducible refine (H5.out w2 (HE0.out.below HB2.out)).mono ?_); rintro e w3 ⟨Az, cz, rfl, hR, hb⟩; have HZ := Aside0.mk (R_far (n := w.heap.size) hR (by have hz := HB2.out.size; simp at hz; omega)); have HA3 := Aside0.mk (R_step2 HA.out hb); have HB3 := Aside0.mk (below_step HB2.out hb); clear hR hb; have hx := (HB3.out.block w.heap.size (by simp)).trans HX0.out; have x0 := blk_cell hx 0; have x1 := blk_cell hx 1; have y0 := blk_frozen hx 0; have y1 := blk_frozen hx 1; have HX3 := Aside0.mk hx; clear hx; have hlt : w.heap.size < w3.heap.size := by {have hz := HB3.out.size; simp at hz; omega}; have n1 := eq_false (Nat.ne_of_lt hlt); have n2 := eq_false (Nat.ne_of_gt hlt)))
          have hz := blk_alloc (blk_set (blk_set HX3.out 0 (.slice none 0 0)) 1 (.slice none 0 0)) (.cells #[.slice Aa la.length ca, .slice Az lz.length cz] 24)
          have c0 := (blk_cell hz 0).trans (show _ = some (Value.slice none 0 0) from rfl)
          have c1 := (blk_cell hz 1).trans (show _ = some (Value.slice none 0 0) from rfl)
          exact bodyPost_ret (v := .tuple #[.agg #[.slice none 0 0, .slice none 0 0], .int .i64 20]) (by simp [results, Tryz.results35, go_sem, c0, c1]) rfl (HNo.out _ (.inl (by simp)) (below_alloc (((below_step HB0.out HB3.out).setCell (p := ⟨w.heap.size, 0, none⟩) (Nat.le_refl _) _).setCell (p := ⟨w.heap.size, 1, none⟩) (Nat.le_refl _) _) _))
        | true =>
          cases oz with
          | false =>
            go_enter Tryz.func35, Tryz.ntmps35
            go_wp2_with (first
      | (go_at_call 61; (with_reducible refine (H1.out _).mono ?_); rintro e w' ⟨rfl, rfl⟩)
      | (go_at_call 62; (with_reducible refine (H2.out _).mono ?_); rintro e w' ⟨rfl, rfl⟩)
      | (go_at_call 63; (with_reducible refine (H3.out _ m HM.out).mono ?_); rintro e w1 ⟨rfl, n, hw⟩; have HB1 := Aside0.mk (below_drawn hw); clear hw)
      | (go_at_call 64; (with_reducible refine (H4.out w1 (HE0.out.below HB1.out)).mono ?_); rintro e w2 ⟨Aa, ca, rfl, hR, hb⟩; have HA := Aside0.mk (R_far (n := w.heap.size) hR (by have hz := HB1.out.size; simp at hz; omega)); have HB2 := Aside0.mk (below_step HB1.out hb); clear hR hb)
      | (go_at_call 64; (with_reducible refine (H5.out w2 (HE0.out.below HB2.out)).mono ?_); rintro e w3 ⟨Az, cz, rfl, hR, hb⟩; have HZ := Aside0.mk (R_far (n := w.heap.size) hR (by have hz := HB2.out.size; simp at hz; omega)); have HA3 := Aside0.mk (R_step2 HA.out hb); have HB3 := Aside0.mk (below_step HB2.out hb); clear hR hb; have hx := (HB3.out.block w.heap.size (by simp)).trans HX0.out; have x0 := blk_cell hx 0; have x1 := blk_cell hx 1; have y0 := blk_frozen hx 0; have y1 := blk_frozen hx 1; have HX3 := Aside0.mk hx; clear hx; have hlt : w.heap.size < w3.heap.size := by {have hz := HB3.out.size; simp at hz; omega}; have n1 := eq_false (Nat.ne_of_lt hlt); have n2 := eq_false (Nat.ne_of_gt hlt)))
            have hz := blk_alloc (blk_set (blk_set HX3.out 0 (.slice none 0 0)) 1 (.slice none 0 0)) (.cells #[.slice Aa la.length ca, .slice Az lz.length cz] 24)
            have c0 := (blk_cell hz 0).trans (show _ = some (Value.slice none 0 0) from rfl)
            have c1 := (blk_cell hz 1).trans (show _ = some (Value.slice none 0 0) from rfl)
            exact bodyPost_ret (v := .tuple #[.agg #[.slice none 0 0, .slice none 0 0], .int .i64 20]) (by simp [results, Tryz.results35, go_sem, c0, c1]) rfl (HNo.out _ (.inl (by simp)) (below_alloc (((below_step HB0.out HB3.out).setCell (p := ⟨w.heap.size, 0, none⟩) (Nat.le_refl _) _).setCell (p := ⟨w.heap.size, 1, none⟩) (Nat.le_refl _) _) _))
          | true =>
            obtain ⟨kc, hkc⟩ := HCk.out
            by_cases hm : chkL la lz = 0
            · rw [hm] at hkc
              have HM2 := Aside0.mk hm
              clear hm
              go_enter Tryz.func35, Tryz.ntmps35
              go_wp2_with (first
      | (go_at_call 61; (with_reducible refine (H1.out _).mono ?_); rintro e w' ⟨rfl, rfl⟩)
      | (go_at_call 62; (with_reducible refine (H2.out _).mono ?_); rintro e w' ⟨rfl, rfl⟩)
      | (go_at_call 63; (with_reducible refine (H3.out _ m HM.out).mono ?_); rintro e w1 ⟨rfl, n, hw⟩; have HB1 := Aside0.mk (below_drawn hw); clear hw)
      | (go_at_call 64; (with_reducible refine (H4.out w1 (HE0.out.below HB1.out)).mono ?_); rintro e w2 ⟨Aa, ca, rfl, hR, hb⟩; have HA := Aside0.mk (R_far (n := w.heap.size) hR (by have hz := HB1.out.size; simp at hz; omega)); have HB2 := Aside0.mk (below_step HB1.out hb); clear hR hb)
      | (go_at_call 64; (with_reducible refine (H5.out w2 (HE0.out.below HB2.out)).mono ?_); rintro e w3 ⟨Az, cz, rfl, hR, hb⟩; have HZ := Aside0.mk (R_far (n := w.heap.size) hR (by have hz := HB2.out.size; simp at hz; omega)); have HA3 := Aside0.mk (R_step2 HA.out hb); have HB3 := Aside0.mk (below_step HB2.out hb); clear hR hb; have hx := (HB3.out.block w.heap.size (by simp)).trans HX0.out; have x0 := blk_cell hx 0; have x1 := blk_cell hx 1; have y0 := blk_frozen hx 0; have y1 := blk_frozen hx 1; have HX3 := Aside0.mk hx; clear hx; have hlt : w.heap.size < w3.heap.size := by {have hz := HB3.out.size; simp at hz; omega}; have n1 := eq_false (Nat.ne_of_lt hlt); have n2 := eq_false (Nat.ne_of_gt hlt))
      | (go_at_call 23; (with_reducible refine (Plab.label_Check.calls kc Aa ca la Az cz lz _ _ (Kd.R_reads' (Kd.R_alloc HA3.out _)).2.2 (Kd.R_reads' HA3.out).2.1 (Kd.R_reads' (Kd.R_alloc HZ.out _)).2.2 (Kd.R_reads' HZ.out).2.1 hkc).mono ?_); rintro e w4 ⟨rfl, hb⟩; have HA4 := Aside0.mk (R_step2 (Kd.R_alloc HA3.out _) hb); have HZ4 := Aside0.mk (R_step2 (Kd.R_alloc HZ.out _) hb); have HB4 := Aside0.mk (below_step (below_alloc (below_step HB0.out HB3.out) _) hb); have hx := (hb.block w.heap.size (by simp; omega)).trans (blk_alloc HX3.out _); have u0 := blk_cell hx 0; have u1 := blk_cell hx 1; have v0 := blk_frozen hx 0; have v1 := blk_frozen hx 1; have HX4 := Aside0.mk hx; have hx2 := (hb.block w3.heap.size (by simp)).trans (heap_alloc_new w3 _); have t0 := blk_cell hx2 0; have t1 := blk_cell hx2 1; clear hx hx2 hb))
              have hz := blk_set (blk_set HX4.out 0 (.slice Aa la.length ca)) 1 (.slice Az lz.length cz)
              have c0 := (blk_cell hz 0).trans (show _ = some (Value.slice Aa la.length ca) from rfl)
              have c1 := (blk_cell hz 1).trans (show _ = some (Value.slice Az lz.length cz) from rfl)
              have ra := Kd.R_reads' (R_set (j := 1) (u := .slice Az lz.length cz) (R_set (j := 0) (u := .slice Aa la.length ca) HA4.out))
              have rz := Kd.R_reads' (R_set (j := 1) (u := .slice Az lz.length cz) (R_set (j := 0) (u := .slice Aa la.length ca) HZ4.out))
              exact bodyPost_ret (v := .tuple #[.agg #[.slice Aa la.length ca, .slice Az lz.length cz], .int .i64 0]) (by simp [results, Tryz.results35, go_sem, c0, c1]) rfl (HYes.out Aa ca Az cz _ (by simp) (by simp) (by simp) (by simp) (by simp) HM2.out ra.2.1 rz.2.1 ra.2.2 rz.2.2 ((HB4.out.setCell (p := ⟨w.heap.size, 0, none⟩) (Nat.le_refl _) _).setCell (p := ⟨w.heap.size, 1, none⟩) (Nat.le_refl _) _))
            · have hm2 : chkL la lz = 20 := by unfold chkL at hm ⊢; split <;> simp_all
              rw [hm2] at hkc
              have HM2 := Aside0.mk hm2
              clear hm hm2
              go_enter Tryz.func35, Tryz.ntmps35
              go_wp2_with (first
      | (go_at_call 61; (with_reducible refine (H1.out _).mono ?_); rintro e w' ⟨rfl, rfl⟩)
      | (go_at_call 62; (with_reducible refine (H2.out _).mono ?_); rintro e w' ⟨rfl, rfl⟩)
      | (go_at_call 63; (with_reducible refine (H3.out _ m HM.out).mono ?_); rintro e w1 ⟨rfl, n, hw⟩; have HB1 := Aside0.mk (below_drawn hw); clear hw)
      | (go_at_call 64; (with_reducible refine (H4.out w1 (HE0.out.below HB1.out)).mono ?_); rintro e w2 ⟨Aa, ca, rfl, hR, hb⟩; have HA := Aside0.mk (R_far (n := w.heap.size) hR (by have hz := HB1.out.size; simp at hz; omega)); have HB2 := Aside0.mk (below_step HB1.out hb); clear hR hb)
      | (go_at_call 64; (with_reducible refine (H5.out w2 (HE0.out.below HB2.out)).mono ?_); rintro e w3 ⟨Az, cz, rfl, hR, hb⟩; have HZ := Aside0.mk (R_far (n := w.heap.size) hR (by have hz := HB2.out.size; simp at hz; omega)); have HA3 := Aside0.mk (R_step2 HA.out hb); have HB3 := Aside0.mk (below_step HB2.out hb); clear hR hb; have hx := (HB3.out.block w.heap.size (by simp)).trans HX0.out; have x0 := blk_cell hx 0; have x1 := blk_cell hx 1; have y0 := blk_frozen hx 0; have y1 := blk_frozen hx 1; have HX3 := Aside0.mk hx; clear hx; have hlt : w.heap.size < w3.heap.size := by {have hz := HB3.out.size; simp at hz; omega}; have n1 := eq_false (Nat.ne_of_lt hlt); have n2 := eq_false (Nat.ne_of_gt hlt))
      | (go_at_call 23; (with_reducible refine (Plab.label_Check.calls kc Aa ca la Az cz lz _ _ (Kd.R_reads' (Kd.R_alloc HA3.out _)).2.2 (Kd.R_reads' HA3.out).2.1 (Kd.R_reads' (Kd.R_alloc HZ.out _)).2.2 (Kd.R_reads' HZ.out).2.1 hkc).mono ?_); rintro e w4 ⟨rfl, hb⟩; have HA4 := Aside0.mk (R_step2 (Kd.R_alloc HA3.out _) hb); have HZ4 := Aside0.mk (R_step2 (Kd.R_alloc HZ.out _) hb); have HB4 := Aside0.mk (below_step (below_alloc (below_step HB0.out HB3.out) _) hb); have hx := (hb.block w.heap.size (by simp; omega)).trans (blk_alloc HX3.out _); have u0 := blk_cell hx 0; have u1 := blk_cell hx 1; have v0 := blk_frozen hx 0; have v1 := blk_frozen hx 1; have HX4 := Aside0.mk hx; have hx2 := (hb.block w3.heap.size (by simp)).trans (heap_alloc_new w3 _); have t0 := blk_cell hx2 0; have t1 := blk_cell hx2 1; clear hx hx2 hb))
              have hz := blk_set (blk_set HX4.out 0 (.slice none 0 0)) 1 (.slice none 0 0)
              have c0 := (blk_cell hz 0).trans (show _ = some (Value.slice none 0 0) from rfl)
              have c1 := (blk_cell hz 1).trans (show _ = some (Value.slice none 0 0) from rfl)
              exact bodyPost_ret (v := .tuple #[.agg #[.slice none 0 0, .slice none 0 0], .int .i64 20]) (by simp [results, Tryz.results35, go_sem, c0, c1]) rfl (HNo.out _ (.inr HM2.out) ((HB4.out.setCell (p := ⟨w.heap.size, 0, none⟩) (Nat.le_refl _) _).setCell (p := ⟨w.heap.size, 1, none⟩) (Nat.le_refl _) _))
end Go.Proofs.YtdmgcbelnnggbaaGreatDoor.LabW
