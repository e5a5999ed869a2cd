/- The law PortOrder. -/
import Derived.Test.YtclhddldbfdfdaaPoOrd0
namespace Go.Proofs.Ytclhddldbfdfdaa.PoW
open Go.RowKit Go.Proofs.YtclhddldbfdfdaaW.PrintWords Go.Proofs.YtclhddldbfdfdaaW.PrintMore Go.Proofs.YtclhddldbfdfdaaW.PrintLast Go.Proofs.Ytclhddldbfdfdaa.LabF Go.Proofs.Ytclhddldbfdfdaa.SetF
set_option linter.unusedVariables false
set_option linter.unusedSimpArgs false
theorem str_at {W : World} {A : Option Addr} {l : List ByteArray} (hC : Kd.C Kd.string W A l.length l) (hp : 0 < l.length) : ∃ b o, A = some ⟨b, o, none⟩ ∧ b < W.heap.size ∧ ∀ j (hj : j < l.length), W.cell? ⟨b, o + j, none⟩ = some (.string l[j]) := by
  obtain ⟨b, o, rfl, hb, hc⟩ := Hand.row_at hC hp (by decide)
  refine ⟨b, o, rfl, hb, fun j hj => ?_⟩
  obtain ⟨c, hl, hk, hcell⟩ := hc j l[j] (List.getElem?_eq_getElem hj)
  have hk : c = [.string l[j]] := hk
  subst hk
  have := hcell 0 _ rfl
  rw [show Kd.string.sz = 1 from rfl, Nat.mul_one] at this
  exact this
theorem int_at {W : World} {A : Option Addr} {l : List Int} (hC : Kd.C (Kd.int .i64) W A l.length l) (hp : 0 < l.length) : ∃ b o, A = some ⟨b, o, none⟩ ∧ b < W.heap.size ∧ ∀ j (hj : j < l.length), W.cell? ⟨b, o + j, none⟩ = some (.int .i64 l[j]) := by
  obtain ⟨b, o, rfl, hb, hc⟩ := Hand.row_at hC hp (by decide)
  refine ⟨b, o, rfl, hb, fun j hj => ?_⟩
  obtain ⟨c, hl, hk, hcell⟩ := hc j l[j] (List.getElem?_eq_getElem hj)
  have hk : c = [.int .i64 l[j]] := hk
  subst hk
  have := hcell 0 _ rfl
  rw [show (Kd.int .i64).sz = 1 from rfl, Nat.mul_one] at this
  exact this
theorem psnew3 (w : World) : Calls Try.prog 8 #[.int .i64 3, .int .i64 64] w fun e W' => ∃ gp, e = .returned (.tuple #[.pointer (some ⟨gp, 0, none⟩), .int .i64 0]) ∧ PS w gp 64 [[], [], []] [] [] W' := PS.new w w (Below.refl _ _) 3 64 (by decide) (by decide) (by decide) (by decide)
def nilH : Hd := (none, 0, [])
def tx (hs : List Hd) (j : Nat) : List ByteArray := (hs.getD j nilH).2.2
def atF (hs : List Hd) (k i j : Nat) : List ByteArray := if j < k then [] else if j = k then (tx hs j).drop i else tx hs j
theorem tmod3 (x : Int) : ∃ z : Int, Int.tmod x 3 = z ∧ -3 < z ∧ z < 3 := ⟨_, rfl, by have := Int.lt_tmod_of_pos x (show (0 : Int) < 3 by decide); omega, by have := Int.tmod_lt_of_pos x (show (0 : Int) < 3 by decide); omega⟩
theorem absz {z : Int} (h0 : -3 < z) (h1 : z < 3) : ∃ u : Nat, u < 3 ∧ (if z < 0 then -z else z) = (u : Int) := ⟨z.natAbs, by omega, by split <;> omega⟩
theorem hs_get {hs : List Hd} (h : hs.length = 3) {u : Nat} (hu : u < 3) : ∃ A c l, hs[u]? = some (A, c, l) ∧ tx hs u = l := by
  obtain ⟨x, hx⟩ : ∃ x, hs[u]? = some x := ⟨_, List.getElem?_eq_getElem (by omega)⟩
  exact ⟨x.1, x.2.1, x.2.2, hx, by unfold tx; rw [List.getD_eq_getElem?_getD, hx]; rfl⟩
theorem tx_set {hs : List Hd} {u : Nat} (hu : u < hs.length) (x : Hd) (j : Nat) : tx (hs.set u x) j = if j = u then x.2.2 else tx hs j := by
  unfold tx
  by_cases e : j = u
  · subst e; rw [if_pos rfl, List.getD_eq_getElem?_getD, List.getElem?_set_self hu]; rfl
  · rw [if_neg e, List.getD_eq_getElem?_getD, List.getElem?_set_ne (Ne.symm e), ← List.getD_eq_getElem?_getD]
theorem rl_full {L : List (List Msg)} {hs : List Hd} {t : ByteArray} {u : Nat} (h : Rl L (fun j => if j = u ∧ (tx hs u).length < 64 then tx hs u ++ [t] else tx hs j)) (hf : ¬ (tx hs u).length < 64) : Rl L (tx hs) := ⟨h.1, fun j hj => (h.2 j hj).trans (if_neg (fun h => hf h.2))⟩
theorem rl_room {L : List (List Msg)} {hs : List Hd} {t : ByteArray} {u : Nat} (h : Rl L (fun j => if j = u ∧ (tx hs u).length < 64 then tx hs u ++ [t] else tx hs j)) (hf : (tx hs u).length < 64) (hu : u < hs.length) {x : Hd} (hx : x.2.2 = tx hs u ++ [t]) : Rl L (tx (hs.set u x)) := by
  refine ⟨h.1, fun j hj => (h.2 j hj).trans ?_⟩
  rw [tx_set hu]
  show (if j = u ∧ (tx hs u).length < 64 then tx hs u ++ [t] else tx hs j) = _
  by_cases e : j = u
  · rw [if_pos ⟨e, hf⟩, if_pos e, hx]
  · rw [if_neg (fun h => e h.1), if_neg e]
theorem atF_zero {L : List (List Msg)} {hs : List Hd} (h : Rl L (tx hs)) : Rl L (atF hs 0 0) := ⟨h.1, fun j hj => by
  rw [h.2 j hj]
  unfold atF
  rw [if_neg (Nat.not_lt_zero j)]
  split <;> rfl⟩
theorem atF_step {L : List (List Msg)} {hs : List Hd} {k i : Nat} {l : List ByteArray} (h : Rl L (fun j => if j = k then l.drop (i + 1) else atF hs k i j)) (hl : tx hs k = l) : Rl L (atF hs k (i + 1)) := ⟨h.1, fun j hj => by
  rw [h.2 j hj]
  show (if j = k then l.drop (i + 1) else atF hs k i j) = _
  unfold atF
  by_cases e : j = k
  · subst e
    rw [if_pos rfl, if_neg (Nat.lt_irrefl j), if_pos rfl, hl]
  · rw [if_neg e, if_neg e, if_neg e]⟩
theorem atF_next {L : List (List Msg)} {hs : List Hd} {k : Nat} {l : List ByteArray} (h : Rl L (atF hs k l.length)) (hl : tx hs k = l) : Rl L (atF hs (k + 1) 0) := ⟨h.1, fun j hj => by
  rw [h.2 j hj]
  unfold atF
  by_cases e : j = k
  · subst e
    rw [if_neg (Nat.lt_irrefl j), if_pos rfl, if_pos (Nat.lt_succ_self j), hl, List.drop_length]
  · by_cases e1 : j < k
    · rw [if_pos e1, if_pos (by omega)]
    · rw [if_neg e1, if_neg e, if_neg (by omega)]
      split <;> rfl⟩
theorem atF_at {L : List (List Msg)} {hs : List Hd} {k i : Nat} {l : List ByteArray} (hl : tx hs k = l) : atF hs k i k = l.drop i := by
  unfold atF
  rw [if_neg (Nat.lt_irrefl k), if_pos rfl, hl]
set_option maxHeartbeats 8000000 in
set_option maxRecDepth 100000 in
theorem ord_calls (A0 : Option Addr) (c0 : Nat) (l0 : List ByteArray) (A1 : Option Addr) (c1 : Nat) (l1 : List Int) (w : World) (h0 : Kd.C Kd.string w A0 l0.length l0) (h1 : Kd.C (Kd.int .i64) w A1 l1.length l1) :
    Calls Try.prog 3 #[.slice A0 l0.length c0, .slice A1 l1.length c1] w fun e w' => e = .returned (.bool true) ∧ Below w.heap.size w w' := by
  have HN := Aside0.mk (psnew3 w)
  have HSb := Aside0.mk (fun (q : Nat) (hq : q < 3) (w : World) => subject_calls (q : Int) (by omega) (by omega) w)
  have HM0 := Aside0.mk (Kd.C_max h0)
  have HM1 := Aside0.mk (Kd.C_max h1)
  have H0 := Aside0.mk h0
  have H1 := Aside0.mk h1
  clear h0 h1
  go_enter Try.func3, Try.ntmps3
  go_wp2_with (go_at_call 8; (with_reducible refine HN.out.mono ?_); rintro e w1 ⟨gp, rfl, hp⟩; have HO := Aside0.mk (OS.new hp); have HG := Aside0.mk hp.below.size; clear hp)
  clear HN
  generalize hgb : w1.heap.size = gb at *
  generalize World.alloc w1 _ = w2 at *
  clear hgb w1
  go_loopw [8] (fun t8 wr => ∃ (k : Nat) (L : List (List Msg)) (hs : List Hd), k ≤ l0.length ∧ k ≤ l1.length ∧ t8 = .int .i64 (k : Int) ∧ Aside0 (OS w gp gb L hs wr) ∧ Aside0 (hs.length = 3 ∧ Rl L (tx hs))) (fun i _ => l0.length - (intOf i).toNat)
  case atStart => exact ⟨0, _, _, Nat.zero_le _, Nat.zero_le _, rfl, HO, Aside0.mk ⟨rfl, rfl, fun j hj => by rcases j with _ | _ | _ | j <;> first | rfl | omega⟩⟩
  case round =>
    clear HO
    obtain ⟨k, L, hs, hk0, hk1, rfl, HO, HR⟩ := hrel
    obtain ⟨b, hb⟩ : ∃ b, decide (k < l0.length ∧ k < l1.length) = b := ⟨_, rfl⟩
    have HBb := Aside0.mk hb
    have hm0 := HM0.out
    have hm1 := HM1.out
    clear hb
    go_upto_region 6 with (fail)
    go_cut [37] from 28 to 37 (fun s37 wx => s37 = .bool b ∧ wr = wx)
    case first =>
      by_cases hlt : k < l0.length
      · have i0 : (k : Int) < (l0.length : Int) := by omega
        by_cases hlt1 : k < l1.length
        · have i1 : (k : Int) < (l1.length : Int) := by omega
          go_wp2
          go_meet
          exact ⟨by rw [← HBb.out, decide_eq_true ⟨hlt, hlt1⟩], rfl⟩
        · have i1 : ¬ ((k : Int) < (l1.length : Int)) := by omega
          go_wp2
          go_meet
          exact ⟨by rw [← HBb.out, decide_eq_false (fun h => hlt1 h.2)], rfl⟩
      · have i0 : ¬ ((k : Int) < (l0.length : Int)) := by omega
        go_wp2
        go_meet
        exact ⟨by rw [← HBb.out, decide_eq_false (fun h => hlt h.1)], rfl⟩
    obtain ⟨rfl, hcw⟩ := hcut
    subst hcw
    cases b with
    | true =>
      have hlt := of_decide_eq_true HBb.out
      obtain ⟨b0, o0, rfl, hb0, hc0⟩ := str_at H0.out (by omega)
      obtain ⟨b1, o1, rfl, hb1, hc1⟩ := int_at H1.out (by omega)
      have HT := Aside0.mk (fun (W : World) (hb : Below w.heap.size w W) => (hb.cell (p := ⟨b0, o0 + k, none⟩) hb0).trans (hc0 k hlt.1))
      have x1 := (HO.out.below.cell (p := ⟨b1, o1 + k, none⟩) hb1).trans (hc1 k hlt.2)
      have i0 : (k : Int) < (l0.length : Int) := by omega
      have i1 : (k : Int) < (l1.length : Int) := by omega
      have j0 : decide ((k : Int) < (l0.length : Int)) = true := decide_eq_true i0
      have j1 : decide ((k : Int) < (l1.length : Int)) = true := decide_eq_true i1
      have hq : k % 3 < 3 := Nat.mod_lt _ (by decide)
      have HQ := Aside0.mk (fun w => HSb.out (k % 3) hq w)
      generalize hz : l1[k] = zz at x1
      generalize ht : l0[k] = t at HT
      clear hc0 hc1 hz ht
      have x0 := HT.out wr HO.out.below
      go_upto_if 46 with (fail)
      obtain ⟨z, hz, hz0, hz1⟩ := tmod3 zz
      rw [hz]
      obtain ⟨u, hu, hzu⟩ := absz hz0 hz1
      clear hz x1
      have HU := Aside0.mk hzu
      clear hzu
      go_cut [9] from 45 to 48 (fun s9 wx => s9 = .int .i64 (u : Int) ∧ wr = wx)
      case first =>
        by_cases hneg : z < 0
        · have e0 := HU.out
          rw [if_pos hneg] at e0
          have HE := Aside0.mk e0
          clear e0
          have e1 : wrap64 (0 - z) = -z := by unfold wrap64; omega
          go_wp2
          go_meet
          exact ⟨by rw [← HE.out], rfl⟩
        · have e0 := HU.out
          rw [if_neg hneg] at e0
          have HE := Aside0.mk e0
          clear e0
          go_wp2
          go_meet
          exact ⟨by rw [← HE.out], rfl⟩
      obtain ⟨rfl, hcw⟩ := hcut
      subst hcw
      clear hz0 hz1 HU
      obtain ⟨Ax, cx, lx, hxu, htx⟩ := hs_get HR.out.1 hu
      by_cases hs_ : 1024 < t.size
      · have HS := Aside0.mk (rl_long HR.out.2 hq hu hs_)
        have d0 : decide ((t.size : Int) ≤ 1024) = false := decide_eq_false (by omega)
        clear hs_ hxu htx
        go_wp2
        refine start_ (n := 15) (S := fun w' => w'.cell? ⟨b0, o0 + k, none⟩ = some (.string t)) (ds := []) #[false, false, false, false, false, false, false, false, false, false, false, false, false, false, false] (by kernel_rfl) rfl rfl (x0) (fun hHeld => ?_)
        refine pure_ (i := 0) (N := some 50) (v := ?_) (a' := ?_) #[true, false, false, false, false, false, false, false, false, false, false, false, false, false, false] rfl rfl (by kernel_rfl) (fun _ _ _ h => h) (Or.inl ⟨by rfl, ?_⟩) ?_ ?_
        rotate_left
        · intro w'
          go_simp
          with_reducible rfl
        rotate_left
        · simp only [Act.put, List.setIfInBounds_toArray, List.set_cons_zero, List.set_cons_succ, i64_w, i32_w]
          rfl
        refine pure_ (i := 1) (N := some 51) (v := ?_) (a' := ?_) #[true, true, false, false, false, false, false, false, false, false, false, false, false, false, false] rfl rfl (by kernel_rfl) (fun _ _ _ h => h) (Or.inl ⟨by rfl, ?_⟩) ?_ ?_
        rotate_left
        · intro w'
          go_simp
          with_reducible rfl
        rotate_left
        · simp only [Act.put, List.setIfInBounds_toArray, List.set_cons_zero, List.set_cons_succ, i64_w, i32_w]
          rfl
        refine pure_ (i := 2) (N := some 52) (v := ?_) (a' := ?_) #[true, true, true, false, false, false, false, false, false, false, false, false, false, false, false] rfl rfl (by kernel_rfl) (fun _ _ _ h => h) (Or.inl ⟨by rfl, ?_⟩) ?_ ?_
        rotate_left
        · intro w'
          go_simp
          with_reducible rfl
        rotate_left
        · simp only [Act.put, List.setIfInBounds_toArray, List.set_cons_zero, List.set_cons_succ, i64_w, i32_w]
          rfl
        refine pure_ (i := 4) (N := some 54) (v := ?_) (a' := ?_) #[true, true, true, false, true, false, false, false, false, false, false, false, false, false, false] rfl rfl (by kernel_rfl) (fun _ _ _ h => h) (Or.inl ⟨by rfl, ?_⟩) ?_ ?_
        rotate_left
        · intro w'
          go_simp
          with_reducible rfl
        rotate_left
        · simp only [Act.put, List.setIfInBounds_toArray, List.set_cons_zero, List.set_cons_succ, i64_w, i32_w]
          rfl
        refine pure_ (i := 5) (N := some 55) (v := ?_) (a' := ?_) #[true, true, true, false, true, true, false, false, false, false, false, false, false, false, false] rfl rfl (by kernel_rfl) (fun _ _ _ h => h) (Or.inl ⟨by rfl, ?_⟩) ?_ ?_
        rotate_left
        · intro w'
          go_simp
          with_reducible rfl
        rotate_left
        · simp only [Act.put, List.setIfInBounds_toArray, List.set_cons_zero, List.set_cons_succ, i64_w, i32_w]
          rfl
        refine pure_ (i := 6) (N := some 56) (v := ?_) (a' := ?_) #[true, true, true, false, true, true, true, false, false, false, false, false, false, false, false] rfl rfl (by kernel_rfl) (fun _ _ _ h => h) (Or.inl ⟨by rfl, ?_⟩) ?_ ?_
        rotate_left
        · intro w'
          go_simp
          with_reducible rfl
        rotate_left
        · simp only [Act.put, List.setIfInBounds_toArray, List.set_cons_zero, List.set_cons_succ, i64_w, i32_w]
          rfl
        refine pure_ (i := 7) (N := some 57) (v := ?_) (a' := ?_) #[true, true, true, false, true, true, true, true, false, false, false, false, false, false, false] rfl rfl (by kernel_rfl) (fun _ _ _ h => h) (Or.inl ⟨by rfl, ?_⟩) ?_ ?_
        rotate_left
        · intro w'
          go_simp
          with_reducible rfl
        rotate_left
        · simp only [Act.put, List.setIfInBounds_toArray, List.set_cons_zero, List.set_cons_succ, i64_w, i32_w]
          rfl
        refine take_ (i := 8) (N := some 58) (v := ?_) (a' := ?_) #[true, true, true, false, true, true, true, true, true, false, false, false, false, false, false] rfl rfl (by kernel_rfl) (fun _ _ _ h => h) (Or.inl ⟨by rfl, ?_⟩) hHeld ?_ ?_
        rotate_left
        · intro w' s0
          go_simp
          with_reducible rfl
        rotate_left
        · simp only [Act.put, List.setIfInBounds_toArray, List.set_cons_zero, List.set_cons_succ, i64_w, i32_w]
          rfl
        refine one_ (i := 3) (N := some 53) #[true, true, true, true, true, true, true, true, true, false, false, false, false, false, false] rfl rfl (by kernel_rfl) (by decide) (fun K hK => ?_)
        refine goes_ Try.func10 (by kernel_rfl) rfl #[.int .i64 (((k % 3 : Nat)) : Int)] (by rfl) rfl rfl (by simp only [List.map_toArray, List.map_cons, List.map_nil]; rfl) ?_
        with_reducible refine (HQ.out _).mono ?_
        rintro e w2 ⟨a, b, rfl, h1, h2, hb⟩
        refine ⟨_, rfl, ?_⟩
        have HO2 := Aside0.mk (HO.out.drew.step hb)
        have HA := Aside0.mk h1
        have HB := Aside0.mk h2
        clear h1 h2 hb
        refine hK.out _ _ (HT.out _ HO2.out.below) (fun hHeld => ?_)
        clear hK K
        refine norm_ (a' := ?_) ?_ ?_
        rotate_left
        · show Act.put _ (some 53) _ = _
          simp only [Act.put, List.setIfInBounds_toArray, List.set_cons_zero, List.set_cons_succ, i64_w, i32_w]
          rfl
        refine one_ (i := 9) (N := some 59) #[true, true, true, true, true, true, true, true, true, true, false, false, false, false, false] rfl rfl (by kernel_rfl) (by decide) (fun K hK => ?_)
        refine goes_ Try.func9 (by kernel_rfl) rfl #[.pointer (some ⟨gp, 0, none⟩), .agg #[.int .i64 (((k % 3 : Nat)) : Int), .slice a 1 1, .slice none 0 0, .slice b 1 1], .int .i64 (u : Int), .string t, .bool true] (by rfl) rfl rfl (by simp only [List.map_toArray, List.map_cons, List.map_nil]; rfl) ?_
        with_reducible refine (HO2.out.sendS HA.out HB.out (u : Int) t HS.out).mono ?_
        rintro e w3 ⟨A3, c3, rfl, hO3⟩
        refine ⟨_, rfl, ?_⟩
        have HO3 := Aside0.mk hO3
        clear hO3 HA HB HO2
        refine hK.out _ _ (HT.out _ HO3.out.below) (fun hHeld => ?_)
        clear hK K
        refine norm_ (a' := ?_) ?_ ?_
        rotate_left
        · show Act.put _ (some 59) _ = _
          simp only [Act.put, List.setIfInBounds_toArray, List.set_cons_zero, List.set_cons_succ, i64_w, i32_w]
          rfl
        refine pure_ (i := 10) (N := some 49) (v := ?_) (a' := ?_) #[true, true, true, true, true, true, true, true, true, true, true, false, false, false, false] rfl rfl (by kernel_rfl) (fun _ _ _ h => h) (Or.inl ⟨by rfl, ?_⟩) ?_ ?_
        rotate_left
        · intro w'
          go_simp
          with_reducible rfl
        rotate_left
        · simp only [Act.put, List.setIfInBounds_toArray, List.set_cons_zero, List.set_cons_succ, i64_w, i32_w]
          rfl
        refine pure_ (i := 11) (N := some 60) (v := ?_) (a' := ?_) #[true, true, true, true, true, true, true, true, true, true, true, true, false, false, false] rfl rfl (by kernel_rfl) (fun _ _ _ h => h) (Or.inl ⟨by rfl, ?_⟩) ?_ ?_
        rotate_left
        · intro w'
          go_simp
          with_reducible rfl
        rotate_left
        · simp only [Act.put, List.setIfInBounds_toArray, List.set_cons_zero, List.set_cons_succ, i64_w, i32_w]
          rfl
        refine pure_ (i := 12) (N := some 61) (v := ?_) (a' := ?_) #[true, true, true, true, true, true, true, true, true, true, true, true, true, false, false] rfl rfl (by kernel_rfl) (fun _ _ _ h => h) (Or.inl ⟨by rfl, ?_⟩) ?_ ?_
        rotate_left
        · intro w'
          go_simp
          with_reducible rfl
        rotate_left
        · simp only [Act.put, List.setIfInBounds_toArray, List.set_cons_zero, List.set_cons_succ, i64_w, i32_w]
          rfl
        refine pure_ (i := 13) (N := some 10) (v := ?_) (a' := ?_) #[true, true, true, true, true, true, true, true, true, true, true, true, true, true, false] rfl rfl (by kernel_rfl) (fun _ _ _ h => h) (Or.inl ⟨by rfl, ?_⟩) ?_ ?_
        rotate_left
        · intro w'
          go_simp
          with_reducible rfl
        rotate_left
        · simp only [Act.put, List.setIfInBounds_toArray, List.set_cons_zero, List.set_cons_succ, i64_w, i32_w]
          rfl
        refine pure_ (i := 14) (N := some 11) (v := ?_) (a' := ?_) #[true, true, true, true, true, true, true, true, true, true, true, true, true, true, true] rfl rfl (by kernel_rfl) (fun _ _ _ h => h) (Or.inl ⟨by rfl, ?_⟩) ?_ ?_
        rotate_left
        · intro w'
          go_simp
          with_reducible rfl
        rotate_left
        · simp only [Act.put, List.setIfInBounds_toArray, List.set_cons_zero, List.set_cons_succ, i64_w, i32_w]
          rfl
        refine done_ (by kernel_rfl) ?_

        clear HO
        go_wp2
        exact ⟨⟨k + 1, L, hs, by omega, by omega, by go_num, HO3, HR⟩, by simp [intOf]; omega⟩
      · obtain ⟨rl, L', hsd, hRl⟩ := rl_send HR.out.2 hq hu (show t.size ≤ 1024 by omega)
        have HS := Aside0.mk hsd
        have HRl := Aside0.mk hRl
        have d0 : decide ((t.size : Int) ≤ 1024) = true := decide_eq_true (by omega)
        have HC := Aside0.mk hxu
        have HX := Aside0.mk htx
        clear hs_ hsd hRl hxu htx
        by_cases hfull : lx.length < 64
        · have f0 : decide ((lx.length : Int) < 64) = true := decide_eq_true (by omega)
          have f1 : (lx.length : Int) < 64 := by omega
          go_wp2
          refine start_ (n := 15) (S := fun w' => w'.cell? ⟨b0, o0 + k, none⟩ = some (.string t)) (ds := []) #[false, false, false, false, false, false, false, false, false, false, false, false, false, false, false] (by kernel_rfl) rfl rfl (x0) (fun hHeld => ?_)
          refine pure_ (i := 0) (N := some 50) (v := ?_) (a' := ?_) #[true, false, false, false, false, false, false, false, false, false, false, false, false, false, false] rfl rfl (by kernel_rfl) (fun _ _ _ h => h) (Or.inl ⟨by rfl, ?_⟩) ?_ ?_
          rotate_left
          · intro w'
            go_simp
            with_reducible rfl
          rotate_left
          · simp only [Act.put, List.setIfInBounds_toArray, List.set_cons_zero, List.set_cons_succ, i64_w, i32_w]
            rfl
          refine pure_ (i := 1) (N := some 51) (v := ?_) (a' := ?_) #[true, true, false, false, false, false, false, false, false, false, false, false, false, false, false] rfl rfl (by kernel_rfl) (fun _ _ _ h => h) (Or.inl ⟨by rfl, ?_⟩) ?_ ?_
          rotate_left
          · intro w'
            go_simp
            with_reducible rfl
          rotate_left
          · simp only [Act.put, List.setIfInBounds_toArray, List.set_cons_zero, List.set_cons_succ, i64_w, i32_w]
            rfl
          refine pure_ (i := 2) (N := some 52) (v := ?_) (a' := ?_) #[true, true, true, false, false, false, false, false, false, false, false, false, false, false, false] rfl rfl (by kernel_rfl) (fun _ _ _ h => h) (Or.inl ⟨by rfl, ?_⟩) ?_ ?_
          rotate_left
          · intro w'
            go_simp
            with_reducible rfl
          rotate_left
          · simp only [Act.put, List.setIfInBounds_toArray, List.set_cons_zero, List.set_cons_succ, i64_w, i32_w]
            rfl
          refine pure_ (i := 4) (N := some 54) (v := ?_) (a' := ?_) #[true, true, true, false, true, false, false, false, false, false, false, false, false, false, false] rfl rfl (by kernel_rfl) (fun _ _ _ h => h) (Or.inl ⟨by rfl, ?_⟩) ?_ ?_
          rotate_left
          · intro w'
            go_simp
            with_reducible rfl
          rotate_left
          · simp only [Act.put, List.setIfInBounds_toArray, List.set_cons_zero, List.set_cons_succ, i64_w, i32_w]
            rfl
          refine pure_ (i := 5) (N := some 55) (v := ?_) (a' := ?_) #[true, true, true, false, true, true, false, false, false, false, false, false, false, false, false] rfl rfl (by kernel_rfl) (fun _ _ _ h => h) (Or.inl ⟨by rfl, ?_⟩) ?_ ?_
          rotate_left
          · intro w'
            go_simp
            with_reducible rfl
          rotate_left
          · simp only [Act.put, List.setIfInBounds_toArray, List.set_cons_zero, List.set_cons_succ, i64_w, i32_w]
            rfl
          refine pure_ (i := 6) (N := some 56) (v := ?_) (a' := ?_) #[true, true, true, false, true, true, true, false, false, false, false, false, false, false, false] rfl rfl (by kernel_rfl) (fun _ _ _ h => h) (Or.inl ⟨by rfl, ?_⟩) ?_ ?_
          rotate_left
          · intro w'
            go_simp
            with_reducible rfl
          rotate_left
          · simp only [Act.put, List.setIfInBounds_toArray, List.set_cons_zero, List.set_cons_succ, i64_w, i32_w]
            rfl
          refine pure_ (i := 7) (N := some 57) (v := ?_) (a' := ?_) #[true, true, true, false, true, true, true, true, false, false, false, false, false, false, false] rfl rfl (by kernel_rfl) (fun _ _ _ h => h) (Or.inl ⟨by rfl, ?_⟩) ?_ ?_
          rotate_left
          · intro w'
            go_simp
            with_reducible rfl
          rotate_left
          · simp only [Act.put, List.setIfInBounds_toArray, List.set_cons_zero, List.set_cons_succ, i64_w, i32_w]
            rfl
          refine take_ (i := 8) (N := some 58) (v := ?_) (a' := ?_) #[true, true, true, false, true, true, true, true, true, false, false, false, false, false, false] rfl rfl (by kernel_rfl) (fun _ _ _ h => h) (Or.inl ⟨by rfl, ?_⟩) hHeld ?_ ?_
          rotate_left
          · intro w' s0
            go_simp
            with_reducible rfl
          rotate_left
          · simp only [Act.put, List.setIfInBounds_toArray, List.set_cons_zero, List.set_cons_succ, i64_w, i32_w]
            rfl
          refine one_ (i := 3) (N := some 53) #[true, true, true, true, true, true, true, true, true, false, false, false, false, false, false] rfl rfl (by kernel_rfl) (by decide) (fun K hK => ?_)
          refine goes_ Try.func10 (by kernel_rfl) rfl #[.int .i64 (((k % 3 : Nat)) : Int)] (by rfl) rfl rfl (by simp only [List.map_toArray, List.map_cons, List.map_nil]; rfl) ?_
          with_reducible refine (HQ.out _).mono ?_
          rintro e w2 ⟨a, b, rfl, h1, h2, hb⟩
          refine ⟨_, rfl, ?_⟩
          have HO2 := Aside0.mk (HO.out.drew.step hb)
          have HA := Aside0.mk h1
          have HB := Aside0.mk h2
          clear h1 h2 hb
          refine hK.out _ _ (HT.out _ HO2.out.below) (fun hHeld => ?_)
          clear hK K
          refine norm_ (a' := ?_) ?_ ?_
          rotate_left
          · show Act.put _ (some 53) _ = _
            simp only [Act.put, List.setIfInBounds_toArray, List.set_cons_zero, List.set_cons_succ, i64_w, i32_w]
            rfl
          refine one_ (i := 9) (N := some 59) #[true, true, true, true, true, true, true, true, true, true, false, false, false, false, false] rfl rfl (by kernel_rfl) (by decide) (fun K hK => ?_)
          refine goes_ Try.func9 (by kernel_rfl) rfl #[.pointer (some ⟨gp, 0, none⟩), .agg #[.int .i64 (((k % 3 : Nat)) : Int), .slice a 1 1, .slice none 0 0, .slice b 1 1], .int .i64 (u : Int), .string t, .bool true] (by rfl) rfl rfl (by simp only [List.map_toArray, List.map_cons, List.map_nil]; rfl) ?_
          with_reducible refine (HO2.out.sendS HA.out HB.out (u : Int) t HS.out).mono ?_
          rintro e w3 ⟨A3, c3, rfl, hO3⟩
          refine ⟨_, rfl, ?_⟩
          have HO3 := Aside0.mk hO3
          clear hO3 HA HB HO2
          refine hK.out _ _ (HT.out _ HO3.out.below) (fun hHeld => ?_)
          clear hK K
          refine norm_ (a' := ?_) ?_ ?_
          rotate_left
          · show Act.put _ (some 59) _ = _
            simp only [Act.put, List.setIfInBounds_toArray, List.set_cons_zero, List.set_cons_succ, i64_w, i32_w]
            rfl
          refine pure_ (i := 10) (N := some 49) (v := ?_) (a' := ?_) #[true, true, true, true, true, true, true, true, true, true, true, false, false, false, false] rfl rfl (by kernel_rfl) (fun _ _ _ h => h) (Or.inl ⟨by rfl, ?_⟩) ?_ ?_
          rotate_left
          · intro w'
            go_simp
            with_reducible rfl
          rotate_left
          · simp only [Act.put, List.setIfInBounds_toArray, List.set_cons_zero, List.set_cons_succ, i64_w, i32_w]
            rfl
          refine pure_ (i := 11) (N := some 60) (v := ?_) (a' := ?_) #[true, true, true, true, true, true, true, true, true, true, true, true, false, false, false] rfl rfl (by kernel_rfl) (fun _ _ _ h => h) (Or.inl ⟨by rfl, ?_⟩) ?_ ?_
          rotate_left
          · intro w'
            go_simp
            with_reducible rfl
          rotate_left
          · simp only [Act.put, List.setIfInBounds_toArray, List.set_cons_zero, List.set_cons_succ, i64_w, i32_w]
            rfl
          refine pure_ (i := 12) (N := some 61) (v := ?_) (a' := ?_) #[true, true, true, true, true, true, true, true, true, true, true, true, true, false, false] rfl rfl (by kernel_rfl) (fun _ _ _ h => h) (Or.inl ⟨by rfl, ?_⟩) ?_ ?_
          rotate_left
          · intro w'
            go_simp
            with_reducible rfl
          rotate_left
          · simp only [Act.put, List.setIfInBounds_toArray, List.set_cons_zero, List.set_cons_succ, i64_w, i32_w]
            rfl
          refine pure_ (i := 13) (N := some 10) (v := ?_) (a' := ?_) #[true, true, true, true, true, true, true, true, true, true, true, true, true, true, false] rfl rfl (by kernel_rfl) (fun _ _ _ h => h) (Or.inl ⟨by rfl, ?_⟩) ?_ ?_
          rotate_left
          · intro w'
            go_simp
            with_reducible rfl
          rotate_left
          · simp only [Act.put, List.setIfInBounds_toArray, List.set_cons_zero, List.set_cons_succ, i64_w, i32_w]
            rfl
          refine pure_ (i := 14) (N := some 11) (v := ?_) (a' := ?_) #[true, true, true, true, true, true, true, true, true, true, true, true, true, true, true] rfl rfl (by kernel_rfl) (fun _ _ _ h => h) (Or.inl ⟨by rfl, ?_⟩) ?_ ?_
          rotate_left
          · intro w'
            go_simp
            with_reducible rfl
          rotate_left
          · simp only [Act.put, List.setIfInBounds_toArray, List.set_cons_zero, List.set_cons_succ, i64_w, i32_w]
            rfl
          refine done_ (by kernel_rfl) ?_

          clear HO
          have hc3 := HO3.out.cell HC.out
          have s0 : w3.cell? ⟨gb, u, none⟩ = some (.slice Ax lx.length cx) := hc3.1
          have x0 := HT.out w3 HO3.out.below
          clear hc3
          obtain ⟨ρ, mbs, hp, hxb, hgo, hrr, hbs⟩ := HO3.out.ex
          have hgl := blk_lt hxb
          have hbl : b0 < w3.heap.size := Nat.lt_of_lt_of_le hb0 HO3.out.below.size
          have hBL : Below w3.heap.size w3 w3.drew := below_drew (Below.refl _ _)
          have HRW := Aside0.mk (show Kd.R Kd.string 9 w3.drew w.heap.size (fun q => upd (upd ρ w3.heap.size (0, 0)) w3.drew.heap.size (2, u) q = some (2, u)) (.slice Ax lx.length cx) lx from Kd.R_mono (Kd.R_below (Kd.R_bound (hrr u _ HC.out)) hBL) (fun q hq => (upd_lt (by have := hBL.size; omega)).trans ((upd_lt hq.2.2.1).trans hq.1)))
          have HBL := Aside0.mk hBL
          have HP := Aside0.mk hp
          have HXb := Aside0.mk hxb
          have HGo := Aside0.mk hgo
          have HRr := Aside0.mk hrr
          have HBs := Aside0.mk hbs
          have HNe := Aside0.mk (show some gb ≠ (Value.slice Ax lx.length cx).ownBlock from fun e => by
            have h7 : ρ gb = some (2, u) := (hrr u _ HC.out).1 gb e.symm
            rw [hgo] at h7; injection h7 with h7; injection h7 with h7; omega)
          clear hp hxb hgo hrr hbs hBL
          have hi3 : (u : Int) < 3 := by omega
          go_upto_region 15 with (fail)
          refine start_ (n := 12) (S := fun w' => w'.cell? ⟨gb, u, none⟩ = some (.slice Ax lx.length cx) ∧ w'.cell? ⟨b0, o0 + k, none⟩ = some (.string t)) (ds := [9, 11]) #[false, false, false, false, false, false, false, false, false, false, false, false] (by kernel_rfl) rfl rfl ⟨s0, x0⟩ (fun hHeld => ?_)
          refine pure_ (i := 0) (N := some 80) (v := ?_) (a' := ?_) #[true, false, false, false, false, false, false, false, false, false, false, false] rfl rfl (by kernel_rfl) (fun _ _ _ h => h) (Or.inl ⟨by rfl, ?_⟩) ?_ ?_
          rotate_left
          · intro w'
            go_simp
            with_reducible rfl
          rotate_left
          · simp only [Act.put, List.setIfInBounds_toArray, List.set_cons_zero, List.set_cons_succ, i64_w, i32_w]
            rfl
          refine pure_ (i := 1) (N := some 81) (v := ?_) (a' := ?_) #[true, true, false, false, false, false, false, false, false, false, false, false] rfl rfl (by kernel_rfl) (fun _ _ _ h => h) (Or.inl ⟨by rfl, ?_⟩) ?_ ?_
          rotate_left
          · intro w'
            go_simp
            with_reducible rfl
          rotate_left
          · simp only [Act.put, List.setIfInBounds_toArray, List.set_cons_zero, List.set_cons_succ, i64_w, i32_w]
            rfl
          refine pure_ (i := 2) (N := some 82) (v := ?_) (a' := ?_) #[true, true, true, false, false, false, false, false, false, false, false, false] rfl rfl (by kernel_rfl) (fun _ _ _ h => h) (Or.inl ⟨by rfl, ?_⟩) ?_ ?_
          rotate_left
          · intro w'
            go_simp
            with_reducible rfl
          rotate_left
          · simp only [Act.put, List.setIfInBounds_toArray, List.set_cons_zero, List.set_cons_succ, i64_w, i32_w]
            rfl
          refine pure_ (i := 4) (N := some 84) (v := ?_) (a' := ?_) #[true, true, true, false, true, false, false, false, false, false, false, false] rfl rfl (by kernel_rfl) (fun _ _ _ h => h) (Or.inl ⟨by rfl, ?_⟩) ?_ ?_
          rotate_left
          · intro w'
            go_simp
            with_reducible rfl
          rotate_left
          · simp only [Act.put, List.setIfInBounds_toArray, List.set_cons_zero, List.set_cons_succ, i64_w, i32_w]
            rfl
          refine pure_ (i := 5) (N := some 85) (v := ?_) (a' := ?_) #[true, true, true, false, true, true, false, false, false, false, false, false] rfl rfl (by kernel_rfl) (fun _ _ _ h => h) (Or.inl ⟨by rfl, ?_⟩) ?_ ?_
          rotate_left
          · intro w'
            go_simp
            with_reducible rfl
          rotate_left
          · simp only [Act.put, List.setIfInBounds_toArray, List.set_cons_zero, List.set_cons_succ, i64_w, i32_w]
            rfl
          refine pure_ (i := 6) (N := some 86) (v := ?_) (a' := ?_) #[true, true, true, false, true, true, true, false, false, false, false, false] rfl rfl (by kernel_rfl) (fun _ _ _ h => h) (Or.inl ⟨by rfl, ?_⟩) ?_ ?_
          rotate_left
          · intro w'
            go_simp
            with_reducible rfl
          rotate_left
          · simp only [Act.put, List.setIfInBounds_toArray, List.set_cons_zero, List.set_cons_succ, i64_w, i32_w]
            rfl
          refine take_ (i := 3) (N := some 83) (v := ?_) (a' := ?_) #[true, true, true, true, true, true, true, false, false, false, false, false] rfl rfl (by kernel_rfl) (fun _ _ _ h => h) (Or.inl ⟨by rfl, ?_⟩) hHeld ?_ ?_
          rotate_left
          · rintro w' ⟨s0, s1⟩
            go_simp
            with_reducible rfl
          rotate_left
          · simp only [Act.put, List.setIfInBounds_toArray, List.set_cons_zero, List.set_cons_succ, i64_w, i32_w]
            rfl
          refine take_ (i := 7) (N := some 87) (v := ?_) (a' := ?_) #[true, true, true, true, true, true, true, true, false, false, false, false] rfl rfl (by kernel_rfl) (fun _ _ _ h => h) (Or.inl ⟨by rfl, ?_⟩) hHeld ?_ ?_
          rotate_left
          · rintro w' ⟨s0, s1⟩
            go_simp
            with_reducible rfl
          rotate_left
          · simp only [Act.put, List.setIfInBounds_toArray, List.set_cons_zero, List.set_cons_succ, i64_w, i32_w]
            rfl
          refine one_ (i := 8) (N := some 88) #[true, true, true, true, true, true, true, true, true, false, false, false] rfl rfl (by kernel_rfl) (by decide) (fun K hK => ?_)
          refine value_ (w1 := (w3.drew.alloc (.cells #[.string t] 9))) (v := ?_) (by rfl) rfl ?_ ?_
          rotate_left 1
          · go_simp
            first | rfl | (constructor <;> rfl)
          refine hK.out _ _ ⟨cell_old hgl s0, cell_old hbl x0⟩ (fun hHeld => ?_)
          clear hK K
          refine norm_ (a' := ?_) ?_ ?_
          rotate_left
          · show Act.put _ (some 88) _ = _
            simp only [Act.put, List.setIfInBounds_toArray, List.set_cons_zero, List.set_cons_succ, i64_w, i32_w]
            rfl
          refine last_ (i := 9) (N := some 89) #[true, true, true, true, true, true, true, true, true, true, false, false] rfl rfl (by kernel_rfl) (by decide) (fun K hK => ?_)
          refine Kd.R_append_step Kd.string (w0 := w) w.heap.size (by rfl) (.tmp 83) (.tmp 88) 22 9 (.string ⟨#[]⟩) 16 rfl Try.underlying22 info9 (by rfl) (by decide) (by decide) (.slice Ax lx.length cx) lx t [.string t] (fun q => upd (upd ρ w3.heap.size (0, 0)) w3.drew.heap.size (2, u) q = some (2, u)) (fun _ => False) rfl rfl rfl (fun _ h => h.elim) (fun q hq => upd_ge hq) HRW.out (below_step HO3.out.below HBL.out) (Nat.le_trans HO3.out.below.size HBL.out.size) (by omega) ?_
          intro v1 w4 hR4 hB4 hg4 hat4
          obtain ⟨A4, c4, rfl⟩ := Kd.R_slice hR4
          have hx4 := blk_grown (blk_below HXb.out HBL.out) hg4 HNe.out
          have y0 : w4.cell? ⟨gb, u, none⟩ = some (.slice Ax lx.length cx) := (blk_cell hx4 u).trans ((blk_cell HXb.out u).symm.trans s0)
          have z0 : w4.frozen? ⟨gb, u, none⟩ = false := blk_frozen hx4 u
          have HR4 := Aside0.mk hR4
          have HB4 := Aside0.mk hB4
          have HG4 := Aside0.mk hg4
          clear hR4 hB4 hg4 hat4 hx4
          refine hK.out _ _ ?_
          clear hK K
          refine norm_ (a' := ?_) ?_ ?_
          rotate_left
          · show Act.put _ (some 89) _ = _
            simp only [Act.put, List.setIfInBounds_toArray, List.set_cons_zero, List.set_cons_succ, i64_w, i32_w]
            rfl
          refine pure_ (i := 10) (N := some 90) (v := ?_) (a' := ?_) #[true, true, true, true, true, true, true, true, true, true, true, false] rfl rfl (by kernel_rfl) (fun _ _ _ h => h) (Or.inl ⟨by rfl, ?_⟩) ?_ ?_
          rotate_left
          · intro w'
            go_simp
            with_reducible rfl
          rotate_left
          · simp only [Act.put, List.setIfInBounds_toArray, List.set_cons_zero, List.set_cons_succ, i64_w, i32_w]
            rfl
          refine last_ (i := 11) (N := none) #[true, true, true, true, true, true, true, true, true, true, true, true] rfl rfl (by kernel_rfl) (by decide) (fun K hK => ?_)
          refine skip_ (w1 := ?_) (by rfl) rfl ?_ ?_
          rotate_left
          · go_simp
            rfl
          refine hK.out _ _ ?_
          clear hK K
          refine done_ (by kernel_rfl) ?_

          have hput := HO3.out.put HP.out HXb.out HGo.out HRr.out HBs.out HBL.out HC.out HR4.out HG4.out
          rw [show (lx ++ [t]).length = lx.length + 1 from by simp] at hput
          have HPut := Aside0.mk hput
          clear hput
          go_wp2
          exact ⟨⟨k + 1, L', hs.set u (A4, c4, lx ++ [t]), by omega, by omega, by go_num, HPut, Aside0.mk ⟨by rw [List.length_set]; exact HR.out.1, rl_room HRl.out (by rw [HX.out]; exact hfull) (by rw [HR.out.1]; exact hu) (by rw [HX.out])⟩⟩, by simp [intOf]; omega⟩
        · have f0 : decide ((lx.length : Int) < 64) = false := decide_eq_false (by omega)
          have f1 : ¬ ((lx.length : Int) < 64) := by omega
          go_wp2
          refine start_ (n := 15) (S := fun w' => w'.cell? ⟨b0, o0 + k, none⟩ = some (.string t)) (ds := []) #[false, false, false, false, false, false, false, false, false, false, false, false, false, false, false] (by kernel_rfl) rfl rfl (x0) (fun hHeld => ?_)
          refine pure_ (i := 0) (N := some 50) (v := ?_) (a' := ?_) #[true, false, false, false, false, false, false, false, false, false, false, false, false, false, false] rfl rfl (by kernel_rfl) (fun _ _ _ h => h) (Or.inl ⟨by rfl, ?_⟩) ?_ ?_
          rotate_left
          · intro w'
            go_simp
            with_reducible rfl
          rotate_left
          · simp only [Act.put, List.setIfInBounds_toArray, List.set_cons_zero, List.set_cons_succ, i64_w, i32_w]
            rfl
          refine pure_ (i := 1) (N := some 51) (v := ?_) (a' := ?_) #[true, true, false, false, false, false, false, false, false, false, false, false, false, false, false] rfl rfl (by kernel_rfl) (fun _ _ _ h => h) (Or.inl ⟨by rfl, ?_⟩) ?_ ?_
          rotate_left
          · intro w'
            go_simp
            with_reducible rfl
          rotate_left
          · simp only [Act.put, List.setIfInBounds_toArray, List.set_cons_zero, List.set_cons_succ, i64_w, i32_w]
            rfl
          refine pure_ (i := 2) (N := some 52) (v := ?_) (a' := ?_) #[true, true, true, false, false, false, false, false, false, false, false, false, false, false, false] rfl rfl (by kernel_rfl) (fun _ _ _ h => h) (Or.inl ⟨by rfl, ?_⟩) ?_ ?_
          rotate_left
          · intro w'
            go_simp
            with_reducible rfl
          rotate_left
          · simp only [Act.put, List.setIfInBounds_toArray, List.set_cons_zero, List.set_cons_succ, i64_w, i32_w]
            rfl
          refine pure_ (i := 4) (N := some 54) (v := ?_) (a' := ?_) #[true, true, true, false, true, false, false, false, false, false, false, false, false, false, false] rfl rfl (by kernel_rfl) (fun _ _ _ h => h) (Or.inl ⟨by rfl, ?_⟩) ?_ ?_
          rotate_left
          · intro w'
            go_simp
            with_reducible rfl
          rotate_left
          · simp only [Act.put, List.setIfInBounds_toArray, List.set_cons_zero, List.set_cons_succ, i64_w, i32_w]
            rfl
          refine pure_ (i := 5) (N := some 55) (v := ?_) (a' := ?_) #[true, true, true, false, true, true, false, false, false, false, false, false, false, false, false] rfl rfl (by kernel_rfl) (fun _ _ _ h => h) (Or.inl ⟨by rfl, ?_⟩) ?_ ?_
          rotate_left
          · intro w'
            go_simp
            with_reducible rfl
          rotate_left
          · simp only [Act.put, List.setIfInBounds_toArray, List.set_cons_zero, List.set_cons_succ, i64_w, i32_w]
            rfl
          refine pure_ (i := 6) (N := some 56) (v := ?_) (a' := ?_) #[true, true, true, false, true, true, true, false, false, false, false, false, false, false, false] rfl rfl (by kernel_rfl) (fun _ _ _ h => h) (Or.inl ⟨by rfl, ?_⟩) ?_ ?_
          rotate_left
          · intro w'
            go_simp
            with_reducible rfl
          rotate_left
          · simp only [Act.put, List.setIfInBounds_toArray, List.set_cons_zero, List.set_cons_succ, i64_w, i32_w]
            rfl
          refine pure_ (i := 7) (N := some 57) (v := ?_) (a' := ?_) #[true, true, true, false, true, true, true, true, false, false, false, false, false, false, false] rfl rfl (by kernel_rfl) (fun _ _ _ h => h) (Or.inl ⟨by rfl, ?_⟩) ?_ ?_
          rotate_left
          · intro w'
            go_simp
            with_reducible rfl
          rotate_left
          · simp only [Act.put, List.setIfInBounds_toArray, List.set_cons_zero, List.set_cons_succ, i64_w, i32_w]
            rfl
          refine take_ (i := 8) (N := some 58) (v := ?_) (a' := ?_) #[true, true, true, false, true, true, true, true, true, false, false, false, false, false, false] rfl rfl (by kernel_rfl) (fun _ _ _ h => h) (Or.inl ⟨by rfl, ?_⟩) hHeld ?_ ?_
          rotate_left
          · intro w' s0
            go_simp
            with_reducible rfl
          rotate_left
          · simp only [Act.put, List.setIfInBounds_toArray, List.set_cons_zero, List.set_cons_succ, i64_w, i32_w]
            rfl
          refine one_ (i := 3) (N := some 53) #[true, true, true, true, true, true, true, true, true, false, false, false, false, false, false] rfl rfl (by kernel_rfl) (by decide) (fun K hK => ?_)
          refine goes_ Try.func10 (by kernel_rfl) rfl #[.int .i64 (((k % 3 : Nat)) : Int)] (by rfl) rfl rfl (by simp only [List.map_toArray, List.map_cons, List.map_nil]; rfl) ?_
          with_reducible refine (HQ.out _).mono ?_
          rintro e w2 ⟨a, b, rfl, h1, h2, hb⟩
          refine ⟨_, rfl, ?_⟩
          have HO2 := Aside0.mk (HO.out.drew.step hb)
          have HA := Aside0.mk h1
          have HB := Aside0.mk h2
          clear h1 h2 hb
          refine hK.out _ _ (HT.out _ HO2.out.below) (fun hHeld => ?_)
          clear hK K
          refine norm_ (a' := ?_) ?_ ?_
          rotate_left
          · show Act.put _ (some 53) _ = _
            simp only [Act.put, List.setIfInBounds_toArray, List.set_cons_zero, List.set_cons_succ, i64_w, i32_w]
            rfl
          refine one_ (i := 9) (N := some 59) #[true, true, true, true, true, true, true, true, true, true, false, false, false, false, false] rfl rfl (by kernel_rfl) (by decide) (fun K hK => ?_)
          refine goes_ Try.func9 (by kernel_rfl) rfl #[.pointer (some ⟨gp, 0, none⟩), .agg #[.int .i64 (((k % 3 : Nat)) : Int), .slice a 1 1, .slice none 0 0, .slice b 1 1], .int .i64 (u : Int), .string t, .bool true] (by rfl) rfl rfl (by simp only [List.map_toArray, List.map_cons, List.map_nil]; rfl) ?_
          with_reducible refine (HO2.out.sendS HA.out HB.out (u : Int) t HS.out).mono ?_
          rintro e w3 ⟨A3, c3, rfl, hO3⟩
          refine ⟨_, rfl, ?_⟩
          have HO3 := Aside0.mk hO3
          clear hO3 HA HB HO2
          refine hK.out _ _ (HT.out _ HO3.out.below) (fun hHeld => ?_)
          clear hK K
          refine norm_ (a' := ?_) ?_ ?_
          rotate_left
          · show Act.put _ (some 59) _ = _
            simp only [Act.put, List.setIfInBounds_toArray, List.set_cons_zero, List.set_cons_succ, i64_w, i32_w]
            rfl
          refine pure_ (i := 10) (N := some 49) (v := ?_) (a' := ?_) #[true, true, true, true, true, true, true, true, true, true, true, false, false, false, false] rfl rfl (by kernel_rfl) (fun _ _ _ h => h) (Or.inl ⟨by rfl, ?_⟩) ?_ ?_
          rotate_left
          · intro w'
            go_simp
            with_reducible rfl
          rotate_left
          · simp only [Act.put, List.setIfInBounds_toArray, List.set_cons_zero, List.set_cons_succ, i64_w, i32_w]
            rfl
          refine pure_ (i := 11) (N := some 60) (v := ?_) (a' := ?_) #[true, true, true, true, true, true, true, true, true, true, true, true, false, false, false] rfl rfl (by kernel_rfl) (fun _ _ _ h => h) (Or.inl ⟨by rfl, ?_⟩) ?_ ?_
          rotate_left
          · intro w'
            go_simp
            with_reducible rfl
          rotate_left
          · simp only [Act.put, List.setIfInBounds_toArray, List.set_cons_zero, List.set_cons_succ, i64_w, i32_w]
            rfl
          refine pure_ (i := 12) (N := some 61) (v := ?_) (a' := ?_) #[true, true, true, true, true, true, true, true, true, true, true, true, true, false, false] rfl rfl (by kernel_rfl) (fun _ _ _ h => h) (Or.inl ⟨by rfl, ?_⟩) ?_ ?_
          rotate_left
          · intro w'
            go_simp
            with_reducible rfl
          rotate_left
          · simp only [Act.put, List.setIfInBounds_toArray, List.set_cons_zero, List.set_cons_succ, i64_w, i32_w]
            rfl
          refine pure_ (i := 13) (N := some 10) (v := ?_) (a' := ?_) #[true, true, true, true, true, true, true, true, true, true, true, true, true, true, false] rfl rfl (by kernel_rfl) (fun _ _ _ h => h) (Or.inl ⟨by rfl, ?_⟩) ?_ ?_
          rotate_left
          · intro w'
            go_simp
            with_reducible rfl
          rotate_left
          · simp only [Act.put, List.setIfInBounds_toArray, List.set_cons_zero, List.set_cons_succ, i64_w, i32_w]
            rfl
          refine pure_ (i := 14) (N := some 11) (v := ?_) (a' := ?_) #[true, true, true, true, true, true, true, true, true, true, true, true, true, true, true] rfl rfl (by kernel_rfl) (fun _ _ _ h => h) (Or.inl ⟨by rfl, ?_⟩) ?_ ?_
          rotate_left
          · intro w'
            go_simp
            with_reducible rfl
          rotate_left
          · simp only [Act.put, List.setIfInBounds_toArray, List.set_cons_zero, List.set_cons_succ, i64_w, i32_w]
            rfl
          refine done_ (by kernel_rfl) ?_

          clear HO
          have hc3 := HO3.out.cell HC.out
          have s0 : w3.cell? ⟨gb, u, none⟩ = some (.slice Ax lx.length cx) := hc3.1
          have x0 := HT.out w3 HO3.out.below
          clear hc3
          go_wp2
          exact ⟨⟨k + 1, L', hs, by omega, by omega, by go_num, HO3, Aside0.mk ⟨HR.out.1, rl_full HRl.out (by rw [HX.out]; omega)⟩⟩, by simp [intOf]; omega⟩
    | false =>
      have HR0 := Aside0.mk (atF_zero HR.out.2)
      have HL3 := Aside0.mk HR.out.1
      clear hm0 hm1 HBb HR hk0 hk1 HSb
      go_wp2
      go_loopw [12] (fun t12 wr => ∃ (k : Nat) (L : List (List Msg)), k ≤ 3 ∧ t12 = .int .i64 (k : Int) ∧ Aside0 (OS w gp gb L hs wr) ∧ Aside0 (Rl L (atF hs k 0))) (fun i _ => 3 - (intOf i).toNat)
      case atStart => exact ⟨0, L, Nat.zero_le _, rfl, HO, HR0⟩
      case round =>
        clear HO HR0
        obtain ⟨k, L, hk, rfl, HO, HR⟩ := hrel
        by_cases hlt : k < 3
        · have i0 : (k : Int) < 3 := by omega
          obtain ⟨Ax, cx, lx, hxu, htx⟩ := hs_get HL3.out hlt
          have HC := Aside0.mk hxu
          have HX := Aside0.mk htx
          have HMl := Aside0.mk (Kd.C_max (HO.out.text hxu))
          clear hxu htx
          go_wp2
          go_loopw [13] (fun t13 wr => ∃ (i : Nat) (L : List (List Msg)), i ≤ lx.length ∧ t13 = .int .i64 (i : Int) ∧ Aside0 (OS w gp gb L hs wr) ∧ Aside0 (Rl L (atF hs k i))) (fun i _ => lx.length - (intOf i).toNat)
          case atStart => exact ⟨0, L, Nat.zero_le _, rfl, HO, HR⟩
          case round =>
            clear HO HR
            obtain ⟨i, L, hi, rfl, HO, HR⟩ := hrel
            have s0 : wr.cell? ⟨gb, k, none⟩ = some (.slice Ax lx.length cx) := (HO.out.cell HC.out).1
            have hml : lx.length ≤ 9223372036854775807 := HMl.out
            by_cases hil : i < lx.length
            · have i1 : (i : Int) < (lx.length : Int) := by omega
              obtain ⟨fr, L2, hT, hR2⟩ := rl_take HR.out hlt ((atF_at (L := L) (i := i) HX.out).trans (List.drop_eq_getElem_cons hil))
              have HT := Aside0.mk hT
              have HR2 := Aside0.mk (atF_step hR2 HX.out)
              have HY := Aside0.mk (fun (W : World) (h : OS w gp gb L2 hs W) => show ∃ b o, Ax = some ⟨b, o, none⟩ ∧ W.cell? ⟨b, o + i, none⟩ = some (.string lx[i]) from by
                obtain ⟨b, o, e, _, hc⟩ := str_at (h.text HC.out) (Nat.lt_of_le_of_lt (Nat.zero_le _) hil)
                exact ⟨b, o, e, hc i hil⟩)
              clear hT hR2
              generalize lx[i] = x at HT HY
              go_upto_region 23 with (go_at_call 11; (with_reducible refine (HO.out.take (k : Int) HT.out).mono ?_); rintro e w5 ⟨rfl, hO⟩; have HO5 := Aside0.mk hO; clear HO hO)
              have HO6 := Aside0.mk (HO5.out.step (below_alloc (Below.refl _ _) (.cells #[.int .i64 fr, .string x] 37)))
              have hm6 := heap_alloc_new w5 (.cells #[.int .i64 fr, .string x] 37)
              clear HO5 s0
              generalize w5.heap.size = gm at *
              generalize w5.alloc _ = w6 at *
              have m1 : w6.cell? ⟨gm, 1, none⟩ = some (.string x) := blk_cell hm6 1
              have s0 : w6.cell? ⟨gb, k, none⟩ = some (.slice Ax lx.length cx) := (HO6.out.cell HC.out).1
              obtain ⟨b2, o2, rfl, y0⟩ := HY.out w6 HO6.out
              clear hm6 HY
              refine start_ (n := 13) (S := fun w' => w'.cell? ⟨gm, 1, none⟩ = some (.string x) ∧ w'.cell? ⟨gb, k, none⟩ = some (.slice (some ⟨b2, o2, none⟩) lx.length cx) ∧ w'.cell? ⟨b2, o2 + i, none⟩ = some (.string x)) (ds := []) #[false, false, false, false, false, false, false, false, false, false, false, false, false] (by kernel_rfl) rfl rfl ⟨m1, s0, y0⟩ (fun hHeld => ?_)
              refine pure_ (i := 0) (N := some 109) (v := ?_) (a' := ?_) #[true, false, false, false, false, false, false, false, false, false, false, false, false] rfl rfl (by kernel_rfl) (fun _ _ _ h => h) (Or.inl ⟨by rfl, ?_⟩) ?_ ?_
              rotate_left
              · intro w'
                go_simp
                with_reducible rfl
              rotate_left
              · simp only [Act.put, List.setIfInBounds_toArray, List.set_cons_zero, List.set_cons_succ, i64_w, i32_w]
                rfl
              refine pure_ (i := 1) (N := some 110) (v := ?_) (a' := ?_) #[true, true, false, false, false, false, false, false, false, false, false, false, false] rfl rfl (by kernel_rfl) (fun _ _ _ h => h) (Or.inl ⟨by rfl, ?_⟩) ?_ ?_
              rotate_left
              · intro w'
                go_simp
                with_reducible rfl
              rotate_left
              · simp only [Act.put, List.setIfInBounds_toArray, List.set_cons_zero, List.set_cons_succ, i64_w, i32_w]
                rfl
              refine pure_ (i := 2) (N := some 111) (v := ?_) (a' := ?_) #[true, true, true, false, false, false, false, false, false, false, false, false, false] rfl rfl (by kernel_rfl) (fun _ _ _ h => h) (Or.inl ⟨by rfl, ?_⟩) ?_ ?_
              rotate_left
              · intro w'
                go_simp
                with_reducible rfl
              rotate_left
              · simp only [Act.put, List.setIfInBounds_toArray, List.set_cons_zero, List.set_cons_succ, i64_w, i32_w]
                rfl
              refine pure_ (i := 3) (N := some 112) (v := ?_) (a' := ?_) #[true, true, true, true, false, false, false, false, false, false, false, false, false] rfl rfl (by kernel_rfl) (fun _ _ _ h => h) (Or.inl ⟨by rfl, ?_⟩) ?_ ?_
              rotate_left
              · intro w'
                go_simp
                with_reducible rfl
              rotate_left
              · simp only [Act.put, List.setIfInBounds_toArray, List.set_cons_zero, List.set_cons_succ, i64_w, i32_w]
                rfl
              refine pure_ (i := 5) (N := some 114) (v := ?_) (a' := ?_) #[true, true, true, true, false, true, false, false, false, false, false, false, false] rfl rfl (by kernel_rfl) (fun _ _ _ h => h) (Or.inl ⟨by rfl, ?_⟩) ?_ ?_
              rotate_left
              · intro w'
                go_simp
                with_reducible rfl
              rotate_left
              · simp only [Act.put, List.setIfInBounds_toArray, List.set_cons_zero, List.set_cons_succ, i64_w, i32_w]
                rfl
              refine pure_ (i := 6) (N := some 115) (v := ?_) (a' := ?_) #[true, true, true, true, false, true, true, false, false, false, false, false, false] rfl rfl (by kernel_rfl) (fun _ _ _ h => h) (Or.inl ⟨by rfl, ?_⟩) ?_ ?_
              rotate_left
              · intro w'
                go_simp
                with_reducible rfl
              rotate_left
              · simp only [Act.put, List.setIfInBounds_toArray, List.set_cons_zero, List.set_cons_succ, i64_w, i32_w]
                rfl
              refine pure_ (i := 8) (N := some 117) (v := ?_) (a' := ?_) #[true, true, true, true, false, true, true, false, true, false, false, false, false] rfl rfl (by kernel_rfl) (fun _ _ _ h => h) (Or.inl ⟨by rfl, ?_⟩) ?_ ?_
              rotate_left
              · intro w'
                go_simp
                with_reducible rfl
              rotate_left
              · simp only [Act.put, List.setIfInBounds_toArray, List.set_cons_zero, List.set_cons_succ, i64_w, i32_w]
                rfl
              refine take_ (i := 4) (N := some 113) (v := ?_) (a' := ?_) #[true, true, true, true, true, true, true, false, true, false, false, false, false] rfl rfl (by kernel_rfl) (fun _ _ _ h => h) (Or.inl ⟨by rfl, ?_⟩) hHeld ?_ ?_
              rotate_left
              · rintro w' ⟨s0, s1, s2⟩
                go_simp
                with_reducible rfl
              rotate_left
              · simp only [Act.put, List.setIfInBounds_toArray, List.set_cons_zero, List.set_cons_succ, i64_w, i32_w]
                rfl
              refine take_ (i := 7) (N := some 116) (v := ?_) (a' := ?_) #[true, true, true, true, true, true, true, true, true, false, false, false, false] rfl rfl (by kernel_rfl) (fun _ _ _ h => h) (Or.inl ⟨by rfl, ?_⟩) hHeld ?_ ?_
              rotate_left
              · rintro w' ⟨s0, s1, s2⟩
                go_simp
                with_reducible rfl
              rotate_left
              · simp only [Act.put, List.setIfInBounds_toArray, List.set_cons_zero, List.set_cons_succ, i64_w, i32_w]
                rfl
              refine pure_ (i := 9) (N := some 118) (v := ?_) (a' := ?_) #[true, true, true, true, true, true, true, true, true, true, false, false, false] rfl rfl (by kernel_rfl) (fun _ _ _ h => h) (Or.inl ⟨by rfl, ?_⟩) ?_ ?_
              rotate_left
              · intro w'
                go_simp
                with_reducible rfl
              rotate_left
              · simp only [Act.put, List.setIfInBounds_toArray, List.set_cons_zero, List.set_cons_succ, i64_w, i32_w]
                rfl
              refine take_ (i := 10) (N := some 119) (v := ?_) (a' := ?_) #[true, true, true, true, true, true, true, true, true, true, true, false, false] rfl rfl (by kernel_rfl) (fun _ _ _ h => h) (Or.inl ⟨by rfl, ?_⟩) hHeld ?_ ?_
              rotate_left
              · rintro w' ⟨s0, s1, s2⟩
                go_simp
                with_reducible rfl
              rotate_left
              · simp only [Act.put, List.setIfInBounds_toArray, List.set_cons_zero, List.set_cons_succ, i64_w, i32_w]
                rfl
              refine pure_ (i := 11) (N := some 120) (v := ?_) (a' := ?_) #[true, true, true, true, true, true, true, true, true, true, true, true, false] rfl rfl (by kernel_rfl) (fun _ _ _ h => h) (Or.inl ⟨by rfl, ?_⟩) ?_ ?_
              rotate_left
              · intro w'
                go_simp
                with_reducible rfl
              rotate_left
              · simp only [Act.put, List.setIfInBounds_toArray, List.set_cons_zero, List.set_cons_succ, i64_w, i32_w]
                rfl
              refine pure_ (i := 12) (N := some 121) (v := ?_) (a' := ?_) #[true, true, true, true, true, true, true, true, true, true, true, true, true] rfl rfl (by kernel_rfl) (fun _ _ _ h => h) (Or.inl ⟨by rfl, ?_⟩) ?_ ?_
              rotate_left
              · intro w'
                go_simp
                with_reducible rfl
              rotate_left
              · simp only [Act.put, List.setIfInBounds_toArray, List.set_cons_zero, List.set_cons_succ, i64_w, i32_w]
                rfl
              refine done_ (by kernel_rfl) ?_

              go_wp2
              exact ⟨⟨i + 1, L2, by omega, by go_num, Aside0.mk HO6.out.drew, HR2⟩, by simp [intOf]; omega⟩
            · obtain rfl : i = lx.length := by omega
              have i1 : ¬ ((lx.length : Int) < (lx.length : Int)) := by omega
              have HT := Aside0.mk (rl_none HR.out hlt ((atF_at (L := L) HX.out).trans List.drop_length))
              have HR2 := Aside0.mk (atF_next HR.out HX.out)
              go_wp2_with (go_at_call 11; (with_reducible refine (HO.out.take (k : Int) HT.out).mono ?_); rintro e w5 ⟨rfl, hO⟩; have HO5 := Aside0.mk hO; clear HO hO)
              exact ⟨⟨k + 1, L, by omega, by go_num, Aside0.mk (HO5.out.step (below_alloc (Below.refl _ _) _)), HR2⟩, by simp [intOf]; omega⟩
        · obtain rfl : k = 3 := by omega
          go_wp2_with (go_at_call 12; (with_reducible refine (awake_calls _).mono ?_); rintro e w9 ⟨rfl, hb⟩; have HB9 := Aside0.mk (below_step HO.out.below hb); clear hb)
          go_ret
          exact ⟨rfl, HB9.out⟩
end Go.Proofs.Ytclhddldbfdfdaa.PoW
