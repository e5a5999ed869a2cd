/- The law PortPlays. -/
import Derived.Test.YtclhddldbfdfdaaPoPl0
import Derived.Deep.CutRange
import Derived.Deep.DeepCutAuto
namespace Go.Proofs.Ytclhddldbfdfdaa.PoW
open Go.RowKit Go.Proofs.YtclhddldbfdfdaaW.PrintWords Go.Proofs.YtclhddldbfdfdaaW.PrintMore Go.Proofs.YtclhddldbfdfdaaW.PrintLast Go.Proofs.Ytclhddldbfdfdaa.LabF Go.Proofs.Ytclhddldbfdfdaa.SetF
set_option linter.unusedVariables false
set_option linter.unusedSimpArgs false
abbrev RO := Ppl.S43
abbrev kO := Ppl.k43
abbrev TQ : TypeId := 52
def cpV (cp : Option (Nat × List (Nat × Nat))) : Value := match cp with
  | none => .pointer none
  | some x => .pointer (some ⟨x.1, 0, none⟩)
/-- An operation of the script, its cells and rows. -/
structure OpAt (w : World) (b o : Nat) (x : RO) (A3 : Option Addr) (c3 : Nat) (A4 : Option Addr) (c4 : Nat) (A5 : Option Addr) (c5 : Nat) : Prop where
  lt : b < w.heap.size
  x0 : w.cell? ⟨b, o, none⟩ = some (.int .i64 x.f0)
  x1 : w.cell? ⟨b, o + 1, none⟩ = some (.int .i64 x.f1)
  x2 : w.cell? ⟨b, o + 2, none⟩ = some (.int .i64 x.f2.f0)
  x3 : w.cell? ⟨b, o + 3, none⟩ = some (.slice A3 x.f2.f1.f0.length c3)
  x4 : w.cell? ⟨b, o + 4, none⟩ = some (.slice A4 x.f2.f1.f1.length c4)
  x5 : w.cell? ⟨b, o + 5, none⟩ = some (.slice A5 x.f2.f2.length c5)
  x6 : w.cell? ⟨b, o + 6, none⟩ = some (.string x.f3)
  x7 : w.cell? ⟨b, o + 7, none⟩ = some (.bool x.f4)
  r3 : Rd w A3 c3 x.f2.f1.f0
  r4 : Rd w A4 c4 x.f2.f1.f1
  r5 : Rd w A5 c5 x.f2.f2
theorem op_at {w : World} {A : Option Addr} {l : List RO} (hC : Kd.C kO w A l.length l) (hp : 0 < l.length) : ∃ b o, A = some ⟨b, o, none⟩ ∧ ∀ j (hj : j < l.length), ∃ A3 c3 A4 c4 A5 c5, OpAt w b (o + j * 8) l[j] A3 c3 A4 c4 A5 c5 := by
  obtain ⟨b, o, rfl, hb, hc⟩ := Hand.row_at hC hp (by decide)
  refine ⟨b, o, rfl, fun j hj => ?_⟩
  obtain ⟨c, hl, hk, hcell⟩ := hc j l[j] (List.getElem?_eq_getElem hj)
  obtain ⟨A3, c3, A4, c4, A5, c5, rfl, l3, g3, l4, g4, l5, g5⟩ := Ppl.k43_open hk
  exact ⟨A3, c3, A4, c4, A5, c5, hb, hcell 0 _ rfl, hcell 1 _ rfl, hcell 2 _ rfl, hcell 3 _ rfl, hcell 4 _ rfl, hcell 5 _ rfl, hcell 6 _ rfl, hcell 7 _ rfl, ⟨l3, g3⟩, ⟨l4, g4⟩, ⟨l5, g5⟩⟩
theorem OpAt.step {w W : World} {b o : Nat} {x : RO} {A3 : Option Addr} {c3 : Nat} {A4 : Option Addr} {c4 : Nat} {A5 : Option Addr} {c5 : Nat} (h : OpAt w b o x A3 c3 A4 c4 A5 c5) (hb : Below w.heap.size w W) : OpAt W b o x A3 c3 A4 c4 A5 c5 :=
  have f : ∀ i u, w.cell? ⟨b, i, none⟩ = some u → W.cell? ⟨b, i, none⟩ = some u := fun i u hx => (hb.cell (p := ⟨b, i, none⟩) h.lt).trans hx
  ⟨Nat.lt_of_lt_of_le h.lt hb.size, f _ _ h.x0, f _ _ h.x1, f _ _ h.x2, f _ _ h.x3, f _ _ h.x4, f _ _ h.x5, f _ _ h.x6, f _ _ h.x7, h.r3.step hb, h.r4.step hb, h.r5.step hb⟩
theorem rsend_row (q : List (List RM)) (room : Nat) (who : Int) (S I own : List Int) (tw : Int) (text : ByteArray) (op : Bool) (h3 : S.length ≤ 17592186044415) : (rsendL q room who S I own tw text op).1.length ≤ 17592186044415 := by
  have h6 : (lackL S tw).length ≤ 17592186044415 := by rw [lack_kept2]; have := kept_len S [2 * tw + 1] false; omega
  unfold rsendL
  repeat' split
  all_goals first | exact h6 | simp
/-- does, of any operation. -/
theorem does_any {w0 : World} {gp room : Nat} {mbs : List (Nat × Nat)} {q : List (List RM)} {A : Option Addr} {c : Nat} {b o : Nat} {x : RO} {A3 : Option Addr} {c3 : Nat} {A4 : Option Addr} {c4 : Nat} {A5 : Option Addr} {c5 : Nat} (hx : OpAt w0 b o x A3 c3 A4 c4 A5 c5) (hq : q.length ≤ 16) (hroom : room ≤ 64) (h3 : x.f2.f1.f0.length ≤ 17592186044415) (h5 : x.f2.f2.length ≤ 17592186044415) :
    ∃ q', q'.length = q.length ∧ ∀ W ρ, PW w0 W gp room mbs q A c ρ → Calls Try.prog 18 #[.pointer (some ⟨gp, 0, none⟩), .agg #[.int .i64 (room : Int), .slice A q.length c], .agg #[.int .i64 x.f0, .int .i64 x.f1, .int .i64 x.f2.f0, .slice A3 x.f2.f1.f0.length c3, .slice A4 x.f2.f1.f1.length c4, .slice A5 x.f2.f2.length c5, .string x.f3, .bool x.f4]] W (DoesPost w0 W gp room mbs q' ρ) := by
  by_cases h1 : x.f0 = 1
  · rw [h1]
    exact ⟨_, rsend_len q room x.f2.f0 x.f2.f1.f0 x.f2.f1.f1 x.f2.f2 x.f1 x.f3 x.f4, fun W ρ h => does_send h hq hroom hx.r3 hx.r4 hx.r5 h3 h5 x.f3 x.f4 (rl := (rsendL q room x.f2.f0 x.f2.f1.f0 x.f2.f1.f1 x.f2.f2 x.f1 x.f3 x.f4).1) (re := (rsendL q room x.f2.f0 x.f2.f1.f0 x.f2.f1.f1 x.f2.f2 x.f1 x.f3 x.f4).2.1) rfl (rsend_row q room x.f2.f0 x.f2.f1.f0 x.f2.f1.f1 x.f2.f2 x.f1 x.f3 x.f4 h3)⟩
  · by_cases h2 : x.f0 = 2
    · rw [h2]
      exact ⟨_, rtake_len q x.f1, fun W ρ h => does_take h hq x.f1 x.f2.f0 A3 _ c3 A4 _ c4 A5 _ c5 x.f3 x.f4 rfl⟩
    · exact ⟨q, rfl, fun W ρ h => does_no h x.f0 x.f1 x.f2.f0 A3 _ c3 A4 _ c4 A5 _ c5 x.f3 x.f4 h1 h2⟩
/-- The reference's New. -/
theorem rnew_calls (users room : Nat) (h0 : 1 ≤ users) (h1 : users ≤ 16) (h2 : 1 ≤ room) (h3 : room ≤ 64) (W : World) : Calls Try.prog 17 #[.int .i64 (users : Int), .int .i64 (room : Int)] W fun e w' => ∃ A c, e = .returned (.tuple #[.agg #[.int .i64 (room : Int), .slice A users c], .int .i64 0]) ∧ QV w' (fun k => W.heap.size ≤ k) A c (List.replicate users []) ∧ Below W.heap.size W w' := by
  refine (Ppt.cloisterref16_New.calls users room (room : Int) (List.replicate users []) 0 W ?_).mono ?_
  · unfold Ppt.cloisterref16_New.f
    rw [if_neg (by omega), if_neg (by omega), if_neg (by omega), if_neg (by omega), if_pos (by omega), if_pos (by omega), Int.toNat_natCast]
  · rintro e w' ⟨v1, rfl, hS, hb⟩
    have hv := Kd.R_V (base' := 0) (Kd.R_mono (ok' := fun k => W.heap.size ≤ k) (Kd.R_bound (Kd.S_R hS)) (fun k hk => hk.2.1))
    obtain ⟨A, c, rfl⟩ := Kd.V_slice hv
    exact ⟨A, c, by rw [List.length_replicate], hv, hb⟩
theorem rnew_not (users room : Int) (h : ¬ (1 ≤ users ∧ users ≤ 16 ∧ 1 ≤ room ∧ room ≤ 64)) (W : World) : Calls Try.prog 17 #[.int .i64 users, .int .i64 room] W fun e w' => ∃ A c, e = .returned (.tuple #[.agg #[.int .i64 0, .slice A 0 c], .int .i64 1]) ∧ Below W.heap.size W w' := by
  refine (Ppt.cloisterref16_New.calls users room 0 [] 1 W ?_).mono ?_
  · unfold Ppt.cloisterref16_New.f
    by_cases h0 : users < 1
    · rw [if_pos h0]
    · rw [if_neg h0]
      by_cases h1 : users > 16
      · rw [if_pos h1]
      · rw [if_neg h1]
        by_cases h2 : room < 1
        · rw [if_pos h2]
        · rw [if_neg h2, if_pos (by omega)]
  · rintro e w' ⟨v1, rfl, hS, hb⟩
    obtain ⟨A, c, rfl⟩ := Kd.V_slice (Kd.S_V (base' := 0) hS)
    exact ⟨A, c, rfl, hb⟩
set_option maxHeartbeats 8000000 in
set_option maxRecDepth 100000 in
theorem plays_not (users room : Int) (h : ¬ (1 ≤ users ∧ users ≤ 16 ∧ 1 ≤ room ∧ room ≤ 64)) (v : Value) (w : World) : Calls Try.prog 6 #[.int .i64 users, .int .i64 room, v] w fun e w' => e = .returned (.bool true) ∧ Below w.heap.size w w' := by
  have HN := Aside0.mk (pnew_not users room h w)
  have HR := Aside0.mk (rnew_not users room h w)
  clear h
  go_enter Try.func6, Try.ntmps6
  go_wp2_with (first
    | (go_at_call 8; (with_reducible refine HN.out.mono ?_); rintro e w1 ⟨rfl, rfl⟩)
    | (go_at_call 17; (with_reducible refine HR.out.mono ?_); rintro e w1 ⟨A, c, rfl, hb⟩; have HB := Aside0.mk hb; clear hb)
    | (go_at_call 12; (with_reducible refine (awake_calls _).mono ?_); rintro e w9 ⟨rfl, hb⟩; have HB9 := Aside0.mk (below_step (below_alloc HB.out _) hb); clear hb))
  all_goals go_ret
  all_goals exact ⟨rfl, HB9.out⟩
/-- At the beginning. -/
theorem pl_init {w w1 w2 : World} {gp room users : Nat} {mbs : List (Nat × Nat)} {ρ' : Own} {A : Option Addr} {c : Nat} (ha : Agree w (fun _ => some (3, 0)) ρ') (hp : PAt w1 w.heap.size ρ' 1 gp room mbs (List.replicate users [])) (hb : Below w.heap.size w w1) (hv : QV w2 (fun k => w1.heap.size ≤ k) A c (List.replicate users [])) (hb2 : Below w1.heap.size w1 w2) : PL w w2 gp room mbs (List.replicate users []) A c [] none 0 none [] := by
  refine ⟨⟨upd ρ' w1.heap.size (0, 0), ⟨below_step hb hb2, ?_, Kd.V_mono hv (fun k hk => upd_ge hk), fun k i e => ?_⟩, Kd.V_nil _ _ _ _ _, fun x e => (by cases e), fun b hb => (by cases hb)⟩, List.nodup_nil⟩
  · rw [show qL (List.replicate users []) = List.replicate users [] from by simp [qL]]
    exact hp.below hb2 (fun k hk => upd_lt hk)
  · rcases Nat.lt_or_ge k w.heap.size with h6 | h6
    · rw [upd_lt (Nat.lt_of_lt_of_le h6 hb.size), ha k h6] at e
      injection e with e; injection e with e; omega
    · exact h6
theorem didE {w W : World} {gp room users : Nat} {mbs : List (Nat × Nat)} {q qo q' : List (List RM)} {A Ao : Option Addr} {c co : Nat} {cp : Option (Nat × List (Nat × Nat))} {bs : List Bx} {V : Value} (h : PL w W gp room mbs q A c qo Ao co cp bs) (hl : q.length = users) (hd : q'.length = users ∧ ∀ W ρ, PW w W gp room mbs q A c ρ → Calls Try.prog 18 #[.pointer (some ⟨gp, 0, none⟩), .agg #[.int .i64 (room : Int), .slice A users c], V] W (DoesPost w W gp room mbs q' ρ)) :
    Calls Try.prog 18 #[.pointer (some ⟨gp, 0, none⟩), .agg #[.int .i64 (room : Int), .slice A users c], V] W fun e W' => ∃ A' c', e = .returned (.tuple #[.agg #[.int .i64 (room : Int), .slice A' users c'], .bool true]) ∧ PL w W' gp room mbs q' A' c' qo Ao co cp bs := by
  obtain ⟨h1, h2⟩ := hd
  subst hl
  have h3 := h.did (q' := q') (V := V) (fun ρ hp => h2 W ρ hp)
  rw [h1] at h3
  exact h3
theorem nd_swap {a b : Bx} {x y : Array Value} {t s : TypeId} (h : (([a, b] : List Bx).map (·.1)).Nodup) : (([(b.1, x, t), (a.1, y, s)] : List Bx).map (·.1)).Nodup := by
  simp only [List.map_cons, List.map_nil, List.nodup_cons, List.mem_cons, List.not_mem_nil, or_false, not_false_eq_true, List.nodup_nil, and_true] at h ⊢
  exact fun e => h e.symm
theorem rlenE {w W : World} {gp room users : Nat} {mbs : List (Nat × Nat)} {q qo : List (List RM)} {A Ao : Option Addr} {c co : Nat} {cp : Option (Nat × List (Nat × Nat))} {bs : List Bx} (h : PL w W gp room mbs q A c qo Ao co cp bs) (hl : q.length = users) (k : Int) {n : Int} (hn : lenL (qL q) k = n) :
    Calls Try.prog 20 #[.agg #[.int .i64 (room : Int), .slice A users c], .int .i64 k] W fun e W' => e = .returned (.int .i64 n) ∧ PL w W' gp room mbs q A c qo Ao co cp bs := by
  subst hl
  exact h.rlen k hn
abbrev m0 {α : Type} {a : α} {l : List α} : a ∈ a :: l := List.mem_cons_self
theorem m1 {α : Type} {a b : α} {l : List α} : b ∈ a :: b :: l := List.mem_cons_of_mem _ List.mem_cons_self
theorem m2 {α : Type} {a b d : α} {l : List α} : d ∈ a :: b :: d :: l := List.mem_cons_of_mem _ (List.mem_cons_of_mem _ List.mem_cons_self)
set_option maxHeartbeats 16000000 in
set_option maxRecDepth 100000 in
theorem plays_calls (users room : Nat) (hu0 : 1 ≤ users) (hu : users ≤ 16) (hr0 : 1 ≤ room) (hr : room ≤ 64) (A2 : Option Addr) (c2 : Nat) (l2 : List RO) (w : World) (h2 : Kd.C kO w A2 l2.length l2) (hl : ∀ x ∈ l2, x.f2.f1.f0.length ≤ 17592186044415 ∧ x.f2.f2.length ≤ 17592186044415) :
    Calls Try.prog 6 #[.int .i64 (users : Int), .int .i64 (room : Int), .slice A2 l2.length c2] w fun e w' => e = .returned (.bool true) ∧ Below w.heap.size w w' := by
  have HN := Aside0.mk (pnew_calls (W := w) (ρ := fun _ => some (3, 0)) (t := 1) users room hu0 hu hr0 hr (by decide))
  have HRN := Aside0.mk (fun W => rnew_calls users room hu0 hu hr0 hr W)
  have HU := Aside0.mk (And.intro hu0 (And.intro hu hr))
  have HM := Aside0.mk (Kd.C_max h2)
  have H2 := Aside0.mk h2
  have HL := Aside0.mk hl
  clear h2 hl hu0 hr0 hr hu
  go_enter Try.func6, Try.ntmps6
  go_upto_region 3 with (first
    | (go_at_call 8; (with_reducible refine HN.out.mono ?_); rintro e w1 ⟨gp, mbs, ρ1, rfl, _, ha, hp, hb⟩; have HA := Aside0.mk ha; have HP := Aside0.mk hp; have HB := Aside0.mk hb; clear ha hp hb)
    | (go_at_call 17; (with_reducible refine (HRN.out _).mono ?_); rintro e w2 ⟨A, c, rfl, hv, hb⟩; have HI := Aside0.mk (pl_init HA.out HP.out HB.out hv hb); clear hv hb HA HP HB))
  clear HN HRN
  obtain ⟨q, hq, hlen⟩ : ∃ q : List (List RM), q = List.replicate users [] ∧ q.length = users := ⟨_, rfl, List.length_replicate⟩
  rw [← hq] at HI
  have HI1 := Aside0.mk (HI.out.boxed #[.int .i64 (room : Int), .slice A users c] TQ rfl)
  have HLen := Aside0.mk hlen
  clear HI hq hlen
  generalize w2.heap.size = n9 at *
  generalize hw3 : w2.alloc _ = w3 at *
  clear hw3
  go_upto_region 9 with (fail)
  have HI2 := Aside0.mk (HI1.out.boxed #[.int .i64 0, .slice none 0 0] TQ rfl)
  clear HI1
  generalize w3.heap.size = n12 at *
  generalize hw4 : w3.alloc _ = w4 at *
  clear hw4
  have HI3 := Aside0.mk (show PL w w4 gp room mbs q A c [] none 0 none [(n9, #[.int .i64 (room : Int), .slice A users c], TQ), (n12, #[.int .i64 0, .slice none ([] : List (List RM)).length 0], TQ)] from HI2.out.sub _ (fun b hb => by
    rcases List.mem_cons.1 hb with rfl | hb
    · exact m1
    · rw [List.mem_singleton.1 hb]; exact m0) (by
    have := HI2.out.nd
    simp only [List.map_cons, List.map_nil, List.nodup_cons, List.mem_cons, List.not_mem_nil, or_false, not_false_eq_true, List.nodup_nil, and_true] at this ⊢
    exact fun e => this e.symm))
  clear HI2
  go_wp2
  go_loopw [11, 13] (fun t11 t13 wr => ∃ (i : Nat) (q : List (List RM)) (A : Option Addr) (c : Nat) (ro : Int) (qo : List (List RM)) (Ao : Option Addr) (co : Nat) (cp : Option (Nat × List (Nat × Nat))), i ≤ l2.length ∧ t11 = cpV cp ∧ t13 = .int .i64 (i : Int) ∧ Aside0 (q.length = users) ∧ Aside0 (PL w wr gp room mbs q A c qo Ao co cp [(n9, #[.int .i64 (room : Int), .slice A users c], TQ), (n12, #[.int .i64 ro, .slice Ao qo.length co], TQ)])) (fun _ i _ => l2.length - (intOf i).toNat)
  case atStart => exact ⟨0, q, A, c, 0, [], none, 0, none, Nat.zero_le _, rfl, rfl, HLen, HI3⟩
  case round =>
    clear HI3 HLen
    obtain ⟨i, q, A, c, ro, qo, Ao, co, cp, hi, rfl, rfl, HLen, HX⟩ := hrel
    have hmx := HM.out
    by_cases hlt : i < l2.length
    · have i1 : (i : Int) < (l2.length : Int) := by omega
      obtain ⟨b0, o0, rfl, hops⟩ := op_at H2.out (by omega)
      obtain ⟨A3, c3, A4, c4, A5, c5, hop⟩ := hops i hlt
      obtain ⟨q', hq', hdo⟩ := does_any (gp := gp) (mbs := mbs) (q := q) (A := A) (c := c) hop (by rw [HLen.out]; exact HU.out.2.1) HU.out.2.2 (HL.out _ (List.getElem_mem hlt)).1 (HL.out _ (List.getElem_mem hlt)).2
      rw [HLen.out] at hdo hq'
      have HDo := Aside0.mk (And.intro hq' hdo)
      have HOp := Aside0.mk (fun (W : World) (hb : Below w.heap.size w W) => hop.step hb)
      clear hops hop hq' hdo
      generalize l2[i] = x at HDo HOp
      generalize hoo : o0 + i * 8 = oo at *
      go_upto_region 12 with (fail)
      have p0 : wr.cell? ⟨n9, 0, none⟩ = some (.int .i64 (room : Int)) := blk_cell (HX.out.box m0) 0
      have p1 : wr.cell? ⟨n9, 1, none⟩ = some (.slice A users c) := blk_cell (HX.out.box m0) 1
      have hop := HOp.out wr HX.out.below
      obtain ⟨_, x0, x1, x2, x3, x4, x5, x6, x7, _, _, _⟩ := hop
      refine start_ (n := 13) (S := fun w' => w'.cell? ⟨n9, 0, none⟩ = some (.int .i64 (room : Int)) ∧ w'.cell? ⟨n9, 1, none⟩ = some (.slice A users c) ∧ w'.cell? ⟨b0, oo, none⟩ = some (.int .i64 x.f0) ∧ w'.cell? ⟨b0, oo + 1, none⟩ = some (.int .i64 x.f1) ∧ w'.cell? ⟨b0, oo + 2, none⟩ = some (.int .i64 x.f2.f0) ∧ w'.cell? ⟨b0, oo + 3, none⟩ = some (.slice A3 x.f2.f1.f0.length c3) ∧ w'.cell? ⟨b0, oo + 4, none⟩ = some (.slice A4 x.f2.f1.f1.length c4) ∧ w'.cell? ⟨b0, oo + 5, none⟩ = some (.slice A5 x.f2.f2.length c5) ∧ w'.cell? ⟨b0, oo + 6, none⟩ = some (.string x.f3) ∧ w'.cell? ⟨b0, oo + 7, none⟩ = some (.bool x.f4)) (ds := [11]) #[false, false, false, false, false, false, false, false, false, false, false, false, false] (by kernel_rfl) rfl rfl ⟨p0, p1, x0, x1, x2, x3, x4, x5, x6, x7⟩ (fun hHeld => ?_)
      refine pure_ (i := 0) (N := some 49) (v := ?_) (a' := ?_) #[true, false, false, false, false, false, false, false, false, false, false, false, false] rfl rfl (by kernel_rfl) (fun _ _ _ h => h) (Or.inl ⟨by rfl, ?_⟩) ?_ ?_
      rotate_left
      · intro w'
        go_simp
        with_reducible rfl
      rotate_left
      · simp only [Act.put, List.setIfInBounds_toArray, List.set_cons_zero, List.set_cons_succ, i64_w, i32_w]
        rfl
      refine pure_ (i := 2) (N := some 51) (v := ?_) (a' := ?_) #[true, false, true, false, false, false, false, false, false, false, false, false, false] rfl rfl (by kernel_rfl) (fun _ _ _ h => h) (Or.inl ⟨by rfl, ?_⟩) ?_ ?_
      rotate_left
      · intro w'
        go_simp
        with_reducible rfl
      rotate_left
      · simp only [Act.put, List.setIfInBounds_toArray, List.set_cons_zero, List.set_cons_succ, i64_w, i32_w]
        rfl
      refine pure_ (i := 3) (N := some 52) (v := ?_) (a' := ?_) #[true, false, true, true, false, false, false, false, false, false, false, false, false] rfl rfl (by kernel_rfl) (fun _ _ _ h => h) (Or.inl ⟨by rfl, ?_⟩) ?_ ?_
      rotate_left
      · intro w'
        go_simp
        with_reducible rfl
      rotate_left
      · simp only [Act.put, List.setIfInBounds_toArray, List.set_cons_zero, List.set_cons_succ, i64_w, i32_w]
        rfl
      refine pure_ (i := 4) (N := some 53) (v := ?_) (a' := ?_) #[true, false, true, true, true, false, false, false, false, false, false, false, false] rfl rfl (by kernel_rfl) (fun _ _ _ h => h) (Or.inl ⟨by rfl, ?_⟩) ?_ ?_
      rotate_left
      · intro w'
        go_simp
        with_reducible rfl
      rotate_left
      · simp only [Act.put, List.setIfInBounds_toArray, List.set_cons_zero, List.set_cons_succ, i64_w, i32_w]
        rfl
      refine take_ (i := 1) (N := some 50) (v := ?_) (a' := ?_) #[true, true, true, true, true, false, false, false, false, false, false, false, false] rfl rfl (by kernel_rfl) (fun _ _ _ h => h) (Or.inl ⟨by rfl, ?_⟩) hHeld ?_ ?_
      rotate_left
      · rintro w' ⟨s0, s1, s2, s3, s4, s5, s6, s7, s8, s9⟩
        go_simp
        with_reducible rfl
      rotate_left
      · simp only [Act.put, List.setIfInBounds_toArray, List.set_cons_zero, List.set_cons_succ, i64_w, i32_w]
        rfl
      refine take_ (i := 5) (N := some 54) (v := ?_) (a' := ?_) #[true, true, true, true, true, true, false, false, false, false, false, false, false] rfl rfl (by kernel_rfl) (fun _ _ _ h => h) (Or.inl ⟨by rfl, ?_⟩) hHeld ?_ ?_
      rotate_left
      · rintro w' ⟨s0, s1, s2, s3, s4, s5, s6, s7, s8, s9⟩
        go_simp
        with_reducible rfl
      rotate_left
      · simp only [Act.put, List.setIfInBounds_toArray, List.set_cons_zero, List.set_cons_succ, i64_w, i32_w]
        rfl
      refine join_ (σ := Nat × Option Addr × Nat) 2 #[true, true, true, true, true, true, true, true, true, true, true, false, false] (fun s => [(55, .tuple #[.agg #[.int .i64 (room : Int), .slice s.2.1 users s.2.2], .bool true]), (48, .tuple #[.agg #[.int .i64 (room : Int), .slice s.2.1 users s.2.2], .bool true]), (56, .agg #[.int .i64 (room : Int), .slice s.2.1 users s.2.2]), (57, .bool true), (14, .pointer (some ⟨s.1, 0, none⟩))]) (fun s w' => PL w w' gp room mbs q' s.2.1 s.2.2 qo Ao co cp ((s.1, #[.int .i64 0, .slice none 0 0], TQ) :: [(n9, #[.int .i64 (room : Int), .slice A users c], TQ), (n12, #[.int .i64 ro, .slice Ao qo.length co], TQ)])) ?_ ?_
      rotate_left
      · intro hCont
        refine two_ (i := 6) (j := 10) (Ni := some 55) (Nj := some 14) #[true, true, true, true, true, true, true, false, false, false, false, false, false] #[true, true, true, true, true, true, false, false, false, false, true, false, false] rfl rfl rfl rfl (by kernel_rfl) (by decide) (by decide) (fun K hK => ?_) (fun K hK => ?_)
        · skip
          refine goes_ Try.func18 (by kernel_rfl) rfl #[.pointer (some ⟨gp, 0, none⟩), .agg #[.int .i64 (room : Int), .slice A users c], .agg #[.int .i64 x.f0, .int .i64 x.f1, .int .i64 x.f2.f0, .slice A3 x.f2.f1.f0.length c3, .slice A4 x.f2.f1.f1.length c4, .slice A5 x.f2.f2.length c5, .string x.f3, .bool x.f4]] (by rfl) rfl rfl (by simp only [List.map_toArray, List.map_cons, List.map_nil]; rfl) ?_
          with_reducible refine (didE (HX.out.step (below_drew (Below.refl _ _))) HLen.out HDo.out).mono ?_
          rintro e w5 ⟨A9, c9, rfl, hE⟩
          refine ⟨_, rfl, ?_⟩
          have HX := Aside0.mk hE
          clear hE
          refine hK.out _ _ ⟨(blk_cell (HX.out.box m0) 0), (blk_cell (HX.out.box m0) 1), (HOp.out _ HX.out.below).x0, (HOp.out _ HX.out.below).x1, (HOp.out _ HX.out.below).x2, (HOp.out _ HX.out.below).x3, (HOp.out _ HX.out.below).x4, (HOp.out _ HX.out.below).x5, (HOp.out _ HX.out.below).x6, (HOp.out _ HX.out.below).x7⟩ (fun hHeld => ?_)
          clear hK K
          refine norm_ (a' := ?_) ?_ ?_
          rotate_left
          · show Act.put _ (some 55) _ = _
            simp only [Act.put, List.setIfInBounds_toArray, List.set_cons_zero, List.set_cons_succ, i64_w, i32_w]
            rfl
          refine pure_ (i := 7) (N := some 48) (v := ?_) (a' := ?_) #[true, true, true, true, true, true, true, true, false, false, false, false, false] rfl rfl (by kernel_rfl) (fun _ _ _ h => h) (Or.inl ⟨by rfl, ?_⟩) ?_ ?_
          rotate_left
          · intro w'
            go_simp
            with_reducible rfl
          rotate_left
          · simp only [Act.put, List.setIfInBounds_toArray, List.set_cons_zero, List.set_cons_succ, i64_w, i32_w]
            rfl
          refine pure_ (i := 8) (N := some 56) (v := ?_) (a' := ?_) #[true, true, true, true, true, true, true, true, true, false, false, false, false] rfl rfl (by kernel_rfl) (fun _ _ _ h => h) (Or.inl ⟨by rfl, ?_⟩) ?_ ?_
          rotate_left
          · intro w'
            go_simp
            with_reducible rfl
          rotate_left
          · simp only [Act.put, List.setIfInBounds_toArray, List.set_cons_zero, List.set_cons_succ, i64_w, i32_w]
            rfl
          refine pure_ (i := 9) (N := some 57) (v := ?_) (a' := ?_) #[true, true, true, true, true, true, true, true, true, true, false, false, false] rfl rfl (by kernel_rfl) (fun _ _ _ h => h) (Or.inl ⟨by rfl, ?_⟩) ?_ ?_
          rotate_left
          · intro w'
            go_simp
            with_reducible rfl
          rotate_left
          · simp only [Act.put, List.setIfInBounds_toArray, List.set_cons_zero, List.set_cons_succ, i64_w, i32_w]
            rfl
          refine one_ (i := 10) (N := some 14) #[true, true, true, true, true, true, true, true, true, true, true, false, false] rfl rfl (by kernel_rfl) (by decide) (fun K hK => ?_)
          refine value_ (w1 := ?_) (v := ?_) (by rfl) rfl ?_ ?_
          rotate_left 2
          · go_simp
            constructor
            · rfl
            · rfl
          have HX := Aside0.mk (HX.out.boxed #[.int .i64 0, .slice none 0 0] TQ rfl)
          refine hK.out _ _ ⟨(blk_cell (HX.out.box m1) 0), (blk_cell (HX.out.box m1) 1), (HOp.out _ HX.out.below).x0, (HOp.out _ HX.out.below).x1, (HOp.out _ HX.out.below).x2, (HOp.out _ HX.out.below).x3, (HOp.out _ HX.out.below).x4, (HOp.out _ HX.out.below).x5, (HOp.out _ HX.out.below).x6, (HOp.out _ HX.out.below).x7⟩ (fun hHeld => ?_)
          clear hK K
          refine norm_ (a' := ?_) ?_ ?_
          rotate_left
          · show Act.put _ (some 14) _ = _
            simp only [Act.put, List.setIfInBounds_toArray, List.set_cons_zero, List.set_cons_succ, i64_w, i32_w]
            rfl
          exact norm_ (by first | (simp only [putAll, Act.put, List.setIfInBounds_toArray, List.set_cons_zero, List.set_cons_succ]; done) | (simp only [putAll, Act.put, List.setIfInBounds_toArray, List.set_cons_zero, List.set_cons_succ]; rfl)) (hCont (w5.heap.size, A9, c9) _ HX.out)
        · skip
          refine value_ (w1 := ?_) (v := ?_) (by rfl) rfl ?_ ?_
          rotate_left 2
          · go_simp
            constructor
            · rfl
            · rfl
          have HX := Aside0.mk (HX.out.boxed #[.int .i64 0, .slice none 0 0] TQ rfl)
          refine hK.out _ _ ⟨(blk_cell (HX.out.box m1) 0), (blk_cell (HX.out.box m1) 1), (HOp.out _ HX.out.below).x0, (HOp.out _ HX.out.below).x1, (HOp.out _ HX.out.below).x2, (HOp.out _ HX.out.below).x3, (HOp.out _ HX.out.below).x4, (HOp.out _ HX.out.below).x5, (HOp.out _ HX.out.below).x6, (HOp.out _ HX.out.below).x7⟩ (fun hHeld => ?_)
          clear hK K
          refine norm_ (a' := ?_) ?_ ?_
          rotate_left
          · show Act.put _ (some 14) _ = _
            simp only [Act.put, List.setIfInBounds_toArray, List.set_cons_zero, List.set_cons_succ, i64_w, i32_w]
            rfl
          refine one_ (i := 6) (N := some 55) #[true, true, true, true, true, true, true, false, false, false, true, false, false] rfl rfl (by kernel_rfl) (by decide) (fun K hK => ?_)
          refine goes_ Try.func18 (by kernel_rfl) rfl #[.pointer (some ⟨gp, 0, none⟩), .agg #[.int .i64 (room : Int), .slice A users c], .agg #[.int .i64 x.f0, .int .i64 x.f1, .int .i64 x.f2.f0, .slice A3 x.f2.f1.f0.length c3, .slice A4 x.f2.f1.f1.length c4, .slice A5 x.f2.f2.length c5, .string x.f3, .bool x.f4]] (by rfl) rfl rfl (by simp only [List.map_toArray, List.map_cons, List.map_nil]; rfl) ?_
          with_reducible refine (didE (HX.out.step (below_drew (Below.refl _ _))) HLen.out HDo.out).mono ?_
          rintro e w5 ⟨A9, c9, rfl, hE⟩
          refine ⟨_, rfl, ?_⟩
          have HX := Aside0.mk hE
          clear hE
          refine hK.out _ _ ⟨(blk_cell (HX.out.box m1) 0), (blk_cell (HX.out.box m1) 1), (HOp.out _ HX.out.below).x0, (HOp.out _ HX.out.below).x1, (HOp.out _ HX.out.below).x2, (HOp.out _ HX.out.below).x3, (HOp.out _ HX.out.below).x4, (HOp.out _ HX.out.below).x5, (HOp.out _ HX.out.below).x6, (HOp.out _ HX.out.below).x7⟩ (fun hHeld => ?_)
          clear hK K
          refine norm_ (a' := ?_) ?_ ?_
          rotate_left
          · show Act.put _ (some 55) _ = _
            simp only [Act.put, List.setIfInBounds_toArray, List.set_cons_zero, List.set_cons_succ, i64_w, i32_w]
            rfl
          refine pure_ (i := 7) (N := some 48) (v := ?_) (a' := ?_) #[true, true, true, true, true, true, true, true, false, false, true, false, false] rfl rfl (by kernel_rfl) (fun _ _ _ h => h) (Or.inl ⟨by rfl, ?_⟩) ?_ ?_
          rotate_left
          · intro w'
            go_simp
            with_reducible rfl
          rotate_left
          · simp only [Act.put, List.setIfInBounds_toArray, List.set_cons_zero, List.set_cons_succ, i64_w, i32_w]
            rfl
          refine pure_ (i := 8) (N := some 56) (v := ?_) (a' := ?_) #[true, true, true, true, true, true, true, true, true, false, true, false, false] rfl rfl (by kernel_rfl) (fun _ _ _ h => h) (Or.inl ⟨by rfl, ?_⟩) ?_ ?_
          rotate_left
          · intro w'
            go_simp
            with_reducible rfl
          rotate_left
          · simp only [Act.put, List.setIfInBounds_toArray, List.set_cons_zero, List.set_cons_succ, i64_w, i32_w]
            rfl
          refine pure_ (i := 9) (N := some 57) (v := ?_) (a' := ?_) #[true, true, true, true, true, true, true, true, true, true, true, false, false] rfl rfl (by kernel_rfl) (fun _ _ _ h => h) (Or.inl ⟨by rfl, ?_⟩) ?_ ?_
          rotate_left
          · intro w'
            go_simp
            with_reducible rfl
          rotate_left
          · simp only [Act.put, List.setIfInBounds_toArray, List.set_cons_zero, List.set_cons_succ, i64_w, i32_w]
            rfl
          exact norm_ (by first | (simp only [putAll, Act.put, List.setIfInBounds_toArray, List.set_cons_zero, List.set_cons_succ]; done) | (simp only [putAll, Act.put, List.setIfInBounds_toArray, List.set_cons_zero, List.set_cons_succ]; rfl)) (hCont (wr.heap.size, A9, c9) _ HX.out)
      rintro ⟨n14, A9, c9⟩ w6 hF
      dsimp only at hF
      have c0_ : w6.cell? ⟨n14, 0, none⟩ = some (.int .i64 0) := blk_cell (hF.box m0) 0
      have c1_ : w6.cell? ⟨n14, 1, none⟩ = some (.slice none 0 0) := blk_cell (hF.box m0) 1
      have f0_ : w6.frozen? ⟨n14, 0, none⟩ = false := blk_frozen (hF.box m0) 0
      have f1_ : w6.frozen? ⟨n14, 1, none⟩ = false := blk_frozen (hF.box m0) 1
      have HF := Aside0.mk hF
      clear hF
      have hHeld := True.intro
      refine norm_ (a' := ?_) ?_ ?_
      rotate_left
      · simp only [putAll, Act.put, List.setIfInBounds_toArray, List.set_cons_zero, List.set_cons_succ]
        rfl
      refine last_ (i := 11) (N := none) #[true, true, true, true, true, true, true, true, true, true, true, true, false] rfl rfl (by kernel_rfl) (by decide) (fun K hK => ?_)
      refine skip_ (w1 := ?_) (by rfl) rfl ?_ ?_
      rotate_left
      · go_simp
        rfl
      refine hK.out _ _ ?_
      clear hK K
      refine pure_ (i := 12) (N := some 15) (v := ?_) (a' := ?_) #[true, true, true, true, true, true, true, true, true, true, true, true, true] rfl rfl (by kernel_rfl) (fun _ _ _ h => h) (Or.inl ⟨by rfl, ?_⟩) ?_ ?_
      rotate_left
      · intro w'
        go_simp
        with_reducible rfl
      rotate_left
      · simp only [Act.put, List.setIfInBounds_toArray, List.set_cons_zero, List.set_cons_succ, i64_w, i32_w]
        rfl
      refine done_ (by kernel_rfl) ?_

      have h7 := HF.out.set2 (.int .i64 (room : Int)) (.slice A9 users c9)
      clear HF HX c0_ c1_ f0_ f1_ hHeld
      generalize hw7 : World.setCell _ _ _ = w7 at *
      clear hw7
      have a0 : w7.cell? ⟨n14, 0, none⟩ = some (.int .i64 (room : Int)) := blk_cell (h7.box m0) 0
      have a1 : w7.cell? ⟨n14, 1, none⟩ = some (.slice A9 users c9) := blk_cell (h7.box m0) 1
      have b0_ : w7.cell? ⟨n9, 0, none⟩ = some (.int .i64 (room : Int)) := blk_cell (h7.box m1) 0
      have b1_ : w7.cell? ⟨n9, 1, none⟩ = some (.slice A users c) := blk_cell (h7.box m1) 1
      have f0_ : w7.frozen? ⟨n9, 0, none⟩ = false := blk_frozen (h7.box m1) 0
      have f1_ : w7.frozen? ⟨n9, 1, none⟩ = false := blk_frozen (h7.box m1) 1
      have H7 := Aside0.mk (h7.sub [(n9, #[.int .i64 (room : Int), .slice A users c], TQ), (n12, #[.int .i64 ro, .slice Ao qo.length co], TQ)] (fun b hb => List.mem_cons_of_mem _ hb) (List.nodup_cons.1 h7.nd).2)
      clear h7
      go_upto_region 16 with (fail)
      have h8 := H7.out.set2 (.int .i64 (room : Int)) (.slice A9 users c9)
      clear H7 a0 a1 b0_ b1_ f0_ f1_
      generalize hw8 : World.setCell _ _ _ = w8 at *
      clear hw8
      have p0 : w8.cell? ⟨n9, 0, none⟩ = some (.int .i64 (room : Int)) := blk_cell (h8.box m0) 0
      have p1 : w8.cell? ⟨n9, 1, none⟩ = some (.slice A9 users c9) := blk_cell (h8.box m0) 1
      have x0 := (HOp.out w8 h8.below).x0
      have H8 := Aside0.mk h8
      have HLq := Aside0.mk HDo.out.1
      clear h8 HDo
      go_upto_if 66 with (fail)
      go_cut [11] from 66 to 71 (fun s11 wx => ∃ (ro : Int) (qo : List (List RM)) (Ao : Option Addr) (co : Nat) (cp : Option (Nat × List (Nat × Nat))), s11 = cpV cp ∧ Aside0 (PL w wx gp room mbs q' A9 c9 qo Ao co cp [(n9, #[.int .i64 (room : Int), .slice A9 users c9], TQ), (n12, #[.int .i64 ro, .slice Ao qo.length co], TQ)]))
      case first =>
        by_cases hk : x.f0 = 3
        · have d0 : (x.f0 == 3) = true := beq_iff_eq.2 hk
          have d1 : (x.f0 = 3) = True := eq_true hk
          clear hk
          go_upto_region 18 with (go_at_call 19; (with_reducible refine (H8.out.copied (by have := HLq.out; have := HU.out.1; omega)).mono ?_); rintro e w9 ⟨gc, mbs', rfl, hE⟩; have H9 := Aside0.mk hE; clear hE H8 p0 p1 x0)
          have p0 : w9.cell? ⟨n9, 0, none⟩ = some (.int .i64 (room : Int)) := blk_cell (H9.out.box m0) 0
          have p1 : w9.cell? ⟨n9, 1, none⟩ = some (.slice A9 users c9) := blk_cell (H9.out.box m0) 1
          have b0_ : w9.cell? ⟨n12, 0, none⟩ = some (.int .i64 ro) := blk_cell (H9.out.box m1) 0
          have b1_ : w9.cell? ⟨n12, 1, none⟩ = some (.slice Ao qo.length co) := blk_cell (H9.out.box m1) 1
          have f0_ : w9.frozen? ⟨n12, 0, none⟩ = false := blk_frozen (H9.out.box m1) 0
          have f1_ : w9.frozen? ⟨n12, 1, none⟩ = false := blk_frozen (H9.out.box m1) 1
          have hsw := H9.out.sub [(n12, #[.int .i64 ro, .slice Ao qo.length co], TQ), (n9, #[.int .i64 (room : Int), .slice A9 users c9], TQ)] (fun b hb => by
            rcases List.mem_cons.1 hb with rfl | hb
            · exact m1
            · rw [List.mem_singleton.1 hb]; exact m0) (nd_swap H9.out.nd)
          have hst := hsw.set2 (.int .i64 (room : Int)) (.slice A9 users c9)
          have hsv := hst.sub [(n9, #[.int .i64 (room : Int), .slice A9 users c9], TQ), (n12, #[.int .i64 (room : Int), .slice A9 users c9], TQ)] (fun b hb => by
            rcases List.mem_cons.1 hb with rfl | hb
            · exact m1
            · rw [List.mem_singleton.1 hb]; exact m0) (nd_swap hst.nd)
          have HS := Aside0.mk hsv
          clear hsw hst hsv H9
          go_wp2
          go_meet
          refine ⟨(room : Int), q', A9, c9, some (gc, mbs'), rfl, ?_⟩
          rw [HLq.out]
          exact HS
        · have d0 : (x.f0 == 3) = false := beq_false_of_ne hk
          have d1 : (x.f0 = 3) = False := eq_false hk
          clear hk
          go_wp2
          go_meet
          exact ⟨ro, qo, Ao, co, cp, rfl, H8⟩
      clear H8 p0 p1 x0
      obtain ⟨ro', qo', Ao', co', cp', rfl, H9⟩ := hcut
      cases cp' with
      | none =>
        dsimp only [cpV]
        go_wp2
        go_loopw [16] (fun t16 wr => ∃ j : Nat, j ≤ users + 2 ∧ t16 = .int .i64 ((j : Int) - 1) ∧ Aside0 (PL w wr gp room mbs q' A9 c9 qo' Ao' co' none [(n9, #[.int .i64 (room : Int), .slice A9 users c9], TQ), (n12, #[.int .i64 ro', .slice Ao' qo'.length co'], TQ)])) (fun i _ => users + 2 - (intOf i + 1).toNat)
        case atStart => exact ⟨0, by omega, rfl, H9⟩
        case round =>
          clear H9
          obtain ⟨j, hj, rfl, HX⟩ := hrel
          have hu16 := HU.out.2.1
          by_cases hju : j < users + 2
          · have j0 : (j : Int) - 1 ≤ (users : Int) := by omega
            have j1 : decide ((j : Int) - 1 ≤ (users : Int)) = true := decide_eq_true j0
            generalize hk : (j : Int) - 1 = kk at *
            obtain ⟨n1, hn1⟩ : ∃ n, lenL (qL q') kk = n := ⟨_, rfl⟩
            obtain ⟨n2, hn2⟩ : ∃ n, lenL (qL qo') kk = n := ⟨_, rfl⟩
            have HN1 := Aside0.mk hn1
            have HN2 := Aside0.mk hn2
            have HK := Aside0.mk hk
            clear hn1 hn2 hk
            have hl := HLq.out
            go_upto_region 24 with (fail)
            have p0 : wr.cell? ⟨n9, 0, none⟩ = some (.int .i64 (room : Int)) := blk_cell (HX.out.box m0) 0
            have p1 : wr.cell? ⟨n9, 1, none⟩ = some (.slice A9 users c9) := blk_cell (HX.out.box m0) 1
            have p2 : wr.cell? ⟨n12, 0, none⟩ = some (.int .i64 ro') := blk_cell (HX.out.box m1) 0
            have p3 : wr.cell? ⟨n12, 1, none⟩ = some (.slice Ao' qo'.length co') := blk_cell (HX.out.box m1) 1
            refine start_ (n := 20) (S := fun w' => w'.cell? ⟨n9, 0, none⟩ = some (.int .i64 (room : Int)) ∧ w'.cell? ⟨n9, 1, none⟩ = some (.slice A9 users c9) ∧ w'.cell? ⟨n12, 0, none⟩ = some (.int .i64 ro') ∧ w'.cell? ⟨n12, 1, none⟩ = some (.slice Ao' qo'.length co')) (ds := []) #[false, false, false, false, false, false, false, false, false, false, false, false, false, false, false, false, false, false, false, false] (by kernel_rfl) rfl rfl ⟨p0, p1, p2, p3⟩ (fun hHeld => ?_)
            refine pure_ (i := 0) (N := some 77) (v := ?_) (a' := ?_) #[true, false, false, false, false, false, false, false, false, false, false, false, false, false, false, false, false, false, false, false] rfl rfl (by kernel_rfl) (fun _ _ _ h => h) (Or.inl ⟨by rfl, ?_⟩) ?_ ?_
            rotate_left
            · intro w'
              go_simp
              with_reducible rfl
            rotate_left
            · simp only [Act.put, List.setIfInBounds_toArray, List.set_cons_zero, List.set_cons_succ, i64_w, i32_w]
              rfl
            refine pure_ (i := 1) (N := some 78) (v := ?_) (a' := ?_) #[true, true, false, false, false, false, false, false, false, false, false, false, false, false, false, false, false, false, false, false] rfl rfl (by kernel_rfl) (fun _ _ _ h => h) (Or.inl ⟨by rfl, ?_⟩) ?_ ?_
            rotate_left
            · intro w'
              go_simp
              with_reducible rfl
            rotate_left
            · simp only [Act.put, List.setIfInBounds_toArray, List.set_cons_zero, List.set_cons_succ, i64_w, i32_w]
              rfl
            refine pure_ (i := 4) (N := some 81) (v := ?_) (a' := ?_) #[true, true, false, false, true, false, false, false, false, false, false, false, false, false, false, false, false, false, false, false] rfl rfl (by kernel_rfl) (fun _ _ _ h => h) (Or.inl ⟨by rfl, ?_⟩) ?_ ?_
            rotate_left
            · intro w'
              go_simp
              with_reducible rfl
            rotate_left
            · simp only [Act.put, List.setIfInBounds_toArray, List.set_cons_zero, List.set_cons_succ, i64_w, i32_w]
              rfl
            refine take_ (i := 3) (N := some 80) (v := ?_) (a' := ?_) #[true, true, false, true, true, false, false, false, false, false, false, false, false, false, false, false, false, false, false, false] rfl rfl (by kernel_rfl) (fun _ _ _ h => h) (Or.inl ⟨by rfl, ?_⟩) hHeld ?_ ?_
            rotate_left
            · rintro w' ⟨s0, s1, s2, s3⟩
              go_simp
              with_reducible rfl
            rotate_left
            · simp only [Act.put, List.setIfInBounds_toArray, List.set_cons_zero, List.set_cons_succ, i64_w, i32_w]
              rfl
            refine one_ (i := 2) (N := some 79) #[true, true, true, true, true, false, false, false, false, false, false, false, false, false, false, false, false, false, false, false] rfl rfl (by kernel_rfl) (by decide) (fun K hK => ?_)
            have HX := Aside0.mk (HX.out.step (below_drew (Below.refl _ _)))
            refine goes_ Try.func13 (by kernel_rfl) rfl #[.pointer (some ⟨gp, 0, none⟩), .int .i64 kk] (by rfl) rfl rfl (by simp only [List.map_toArray, List.map_cons, List.map_nil]; rfl) ?_
            with_reducible refine (HX.out.len kk HN1.out).mono ?_
            rintro e w10 ⟨rfl, rfl⟩
            refine ⟨_, rfl, ?_⟩
            refine hK.out _ _ ⟨blk_cell (HX.out.box m0) 0, blk_cell (HX.out.box m0) 1, blk_cell (HX.out.box m1) 0, blk_cell (HX.out.box m1) 1⟩ (fun hHeld => ?_)
            clear hK K
            refine norm_ (a' := ?_) ?_ ?_
            rotate_left
            · show Act.put _ (some 79) _ = _
              simp only [Act.put, List.setIfInBounds_toArray, List.set_cons_zero, List.set_cons_succ, i64_w, i32_w]
              rfl
            refine one_ (i := 5) (N := some 82) #[true, true, true, true, true, true, false, false, false, false, false, false, false, false, false, false, false, false, false, false] rfl rfl (by kernel_rfl) (by decide) (fun K hK => ?_)
            refine goes_ Try.func20 (by kernel_rfl) rfl #[.agg #[.int .i64 (room : Int), .slice A9 users c9], .int .i64 kk] (by rfl) rfl rfl (by simp only [List.map_toArray, List.map_cons, List.map_nil]; rfl) ?_
            with_reducible refine (rlenE HX.out hl kk HN1.out).mono ?_
            rintro e w11 ⟨rfl, hE⟩
            refine ⟨_, rfl, ?_⟩
            have HX := Aside0.mk hE
            clear hE
            refine hK.out _ _ ⟨blk_cell (HX.out.box m0) 0, blk_cell (HX.out.box m0) 1, blk_cell (HX.out.box m1) 0, blk_cell (HX.out.box m1) 1⟩ (fun hHeld => ?_)
            clear hK K
            refine norm_ (a' := ?_) ?_ ?_
            rotate_left
            · show Act.put _ (some 82) _ = _
              simp only [Act.put, List.setIfInBounds_toArray, List.set_cons_zero, List.set_cons_succ, i64_w, i32_w]
              rfl
            refine pure_ (i := 6) (N := some 83) (v := ?_) (a' := ?_) #[true, true, true, true, true, true, true, false, false, false, false, false, false, false, false, false, false, false, false, false] rfl rfl (by kernel_rfl) (fun _ _ _ h => h) (Or.inl ⟨by rfl, ?_⟩) ?_ ?_
            rotate_left
            · intro w'
              go_simp
              with_reducible rfl
            rotate_left
            · simp only [Act.put, List.setIfInBounds_toArray, List.set_cons_zero, List.set_cons_succ, i64_w, i32_w]
              rfl
            refine pure_ (i := 7) (N := some 84) (v := ?_) (a' := ?_) #[true, true, true, true, true, true, true, true, false, false, false, false, false, false, false, false, false, false, false, false] rfl rfl (by kernel_rfl) (fun _ _ _ h => h) (Or.inl ⟨by rfl, ?_⟩) ?_ ?_
            rotate_left
            · intro w'
              go_simp
              with_reducible rfl
            rotate_left
            · simp only [Act.put, List.setIfInBounds_toArray, List.set_cons_zero, List.set_cons_succ, i64_w, i32_w]
              rfl
            refine pure_ (i := 8) (N := some 85) (v := ?_) (a' := ?_) #[true, true, true, true, true, true, true, true, true, false, false, false, false, false, false, false, false, false, false, false] rfl rfl (by kernel_rfl) (fun _ _ _ h => h) (Or.inl ⟨by rfl, ?_⟩) ?_ ?_
            rotate_left
            · intro w'
              go_simp
              with_reducible rfl
            rotate_left
            · simp only [Act.put, List.setIfInBounds_toArray, List.set_cons_zero, List.set_cons_succ, i64_w, i32_w]
              rfl
            refine pure_ (i := 9) (N := some 86) (v := ?_) (a' := ?_) #[true, true, true, true, true, true, true, true, true, true, false, false, false, false, false, false, false, false, false, false] rfl rfl (by kernel_rfl) (fun _ _ _ h => h) (Or.inl ⟨by rfl, ?_⟩) ?_ ?_
            rotate_left
            · intro w'
              go_simp
              with_reducible rfl
            rotate_left
            · simp only [Act.put, List.setIfInBounds_toArray, List.set_cons_zero, List.set_cons_succ, i64_w, i32_w]
              rfl
            refine pure_ (i := 10) (N := some 87) (v := ?_) (a' := ?_) #[true, true, true, true, true, true, true, true, true, true, true, false, false, false, false, false, false, false, false, false] rfl rfl (by kernel_rfl) (fun _ _ _ h => h) (Or.inl ⟨by rfl, ?_⟩) ?_ ?_
            rotate_left
            · intro w'
              go_simp
              with_reducible rfl
            rotate_left
            · simp only [Act.put, List.setIfInBounds_toArray, List.set_cons_zero, List.set_cons_succ, i64_w, i32_w]
              rfl
            refine pure_ (i := 11) (N := some 88) (v := undef) (a' := ?_) #[true, true, true, true, true, true, true, true, true, true, true, true, false, false, false, false, false, false, false, false] rfl rfl (by kernel_rfl) (fun _ _ _ h => h) (Or.inr ⟨by rfl, rfl⟩) ?_ ?_
            rotate_left
            · simp only [Act.put, List.setIfInBounds_toArray, List.set_cons_zero, List.set_cons_succ, i64_w, i32_w]
              rfl
            refine pure_ (i := 12) (N := some 89) (v := undef) (a' := ?_) #[true, true, true, true, true, true, true, true, true, true, true, true, true, false, false, false, false, false, false, false] rfl rfl (by kernel_rfl) (fun _ _ _ h => h) (Or.inr ⟨by rfl, rfl⟩) ?_ ?_
            rotate_left
            · simp only [Act.put, List.setIfInBounds_toArray, List.set_cons_zero, List.set_cons_succ, i64_w, i32_w]
              rfl
            refine pure_ (i := 13) (N := some 90) (v := undef) (a' := ?_) #[true, true, true, true, true, true, true, true, true, true, true, true, true, true, false, false, false, false, false, false] rfl rfl (by kernel_rfl) (fun _ _ _ h => h) (Or.inr ⟨by rfl, rfl⟩) ?_ ?_
            rotate_left
            · simp only [Act.put, List.setIfInBounds_toArray, List.set_cons_zero, List.set_cons_succ, i64_w, i32_w]
              rfl
            refine pure_ (i := 14) (N := some 91) (v := undef) (a' := ?_) #[true, true, true, true, true, true, true, true, true, true, true, true, true, true, true, false, false, false, false, false] rfl rfl (by kernel_rfl) (fun _ _ _ h => h) (Or.inr ⟨by rfl, rfl⟩) ?_ ?_
            rotate_left
            · simp only [Act.put, List.setIfInBounds_toArray, List.set_cons_zero, List.set_cons_succ, i64_w, i32_w]
              rfl
            refine pure_ (i := 15) (N := some 92) (v := undef) (a' := ?_) #[true, true, true, true, true, true, true, true, true, true, true, true, true, true, true, true, false, false, false, false] rfl rfl (by kernel_rfl) (fun _ _ _ h => h) (Or.inr ⟨by rfl, rfl⟩) ?_ ?_
            rotate_left
            · simp only [Act.put, List.setIfInBounds_toArray, List.set_cons_zero, List.set_cons_succ, i64_w, i32_w]
              rfl
            refine pure_ (i := 16) (N := some 93) (v := undef) (a' := ?_) #[true, true, true, true, true, true, true, true, true, true, true, true, true, true, true, true, true, false, false, false] rfl rfl (by kernel_rfl) (fun _ _ _ h => h) (Or.inr ⟨by rfl, rfl⟩) ?_ ?_
            rotate_left
            · simp only [Act.put, List.setIfInBounds_toArray, List.set_cons_zero, List.set_cons_succ, i64_w, i32_w]
              rfl
            refine pure_ (i := 17) (N := some 94) (v := undef) (a' := ?_) #[true, true, true, true, true, true, true, true, true, true, true, true, true, true, true, true, true, true, false, false] rfl rfl (by kernel_rfl) (fun _ _ _ h => h) (Or.inr ⟨by rfl, rfl⟩) ?_ ?_
            rotate_left
            · simp only [Act.put, List.setIfInBounds_toArray, List.set_cons_zero, List.set_cons_succ, i64_w, i32_w]
              rfl
            refine pure_ (i := 18) (N := some 95) (v := ?_) (a' := ?_) #[true, true, true, true, true, true, true, true, true, true, true, true, true, true, true, true, true, true, true, false] rfl rfl (by kernel_rfl) (fun _ _ _ h => h) (Or.inl ⟨by rfl, ?_⟩) ?_ ?_
            rotate_left
            · intro w'
              go_simp
              with_reducible rfl
            rotate_left
            · simp only [Act.put, List.setIfInBounds_toArray, List.set_cons_zero, List.set_cons_succ, i64_w, i32_w]
              rfl
            refine pure_ (i := 19) (N := some 96) (v := ?_) (a' := ?_) #[true, true, true, true, true, true, true, true, true, true, true, true, true, true, true, true, true, true, true, true] rfl rfl (by kernel_rfl) (fun _ _ _ h => h) (Or.inl ⟨by rfl, ?_⟩) ?_ ?_
            rotate_left
            · intro w'
              go_simp
              with_reducible rfl
            rotate_left
            · simp only [Act.put, List.setIfInBounds_toArray, List.set_cons_zero, List.set_cons_succ, i64_w, i32_w]
              rfl
            refine done_ (by kernel_rfl) ?_

            have hkk := HK.out
            have e1 : wrap64 (kk + 1) = (j : Int) := by unfold wrap64; omega
            clear hkk p0 p1 p2 p3
            go_wp2
            exact ⟨⟨j + 1, by omega, congrArg (Value.int .i64) (by omega), HX⟩, by have := HK.out; simp [intOf]; omega⟩
          · obtain rfl : j = users + 2 := by omega
            have j0 : ¬ (((users + 2 : Nat) : Int) - 1 ≤ (users : Int)) := by omega
            have j1 : decide (((users + 2 : Nat) : Int) - 1 ≤ (users : Int)) = false := decide_eq_false j0
            have j2 : decide ((users : Int) + 2 - 1 ≤ (users : Int)) = false := decide_eq_false (by omega)
            have j3 : ¬ ((users : Int) + 2 - 1 ≤ (users : Int)) := by omega
            go_wp2
            exact ⟨⟨i + 1, q', A9, c9, ro', qo', Ao', co', none, by omega, rfl, by go_num, HLq, HX⟩, by simp [intOf]; omega⟩
      | some xx =>
        obtain ⟨gc, mbs'⟩ := xx
        dsimp only [cpV]
        go_wp2
        go_loopw [16] (fun t16 wr => ∃ j : Nat, j ≤ users + 2 ∧ t16 = .int .i64 ((j : Int) - 1) ∧ Aside0 (PL w wr gp room mbs q' A9 c9 qo' Ao' co' (some (gc, mbs')) [(n9, #[.int .i64 (room : Int), .slice A9 users c9], TQ), (n12, #[.int .i64 ro', .slice Ao' qo'.length co'], TQ)])) (fun i _ => users + 2 - (intOf i + 1).toNat)
        case atStart => exact ⟨0, by omega, rfl, H9⟩
        case round =>
          clear H9
          obtain ⟨j, hj, rfl, HX⟩ := hrel
          have hu16 := HU.out.2.1
          by_cases hju : j < users + 2
          · have j0 : (j : Int) - 1 ≤ (users : Int) := by omega
            have j1 : decide ((j : Int) - 1 ≤ (users : Int)) = true := decide_eq_true j0
            generalize hk : (j : Int) - 1 = kk at *
            obtain ⟨n1, hn1⟩ : ∃ n, lenL (qL q') kk = n := ⟨_, rfl⟩
            obtain ⟨n2, hn2⟩ : ∃ n, lenL (qL qo') kk = n := ⟨_, rfl⟩
            have HN1 := Aside0.mk hn1
            have HN2 := Aside0.mk hn2
            have HK := Aside0.mk hk
            clear hn1 hn2 hk
            have hl := HLq.out
            go_upto_region 24 with (fail)
            have p0 : wr.cell? ⟨n9, 0, none⟩ = some (.int .i64 (room : Int)) := blk_cell (HX.out.box m0) 0
            have p1 : wr.cell? ⟨n9, 1, none⟩ = some (.slice A9 users c9) := blk_cell (HX.out.box m0) 1
            have p2 : wr.cell? ⟨n12, 0, none⟩ = some (.int .i64 ro') := blk_cell (HX.out.box m1) 0
            have p3 : wr.cell? ⟨n12, 1, none⟩ = some (.slice Ao' qo'.length co') := blk_cell (HX.out.box m1) 1
            refine start_ (n := 20) (S := fun w' => w'.cell? ⟨n9, 0, none⟩ = some (.int .i64 (room : Int)) ∧ w'.cell? ⟨n9, 1, none⟩ = some (.slice A9 users c9) ∧ w'.cell? ⟨n12, 0, none⟩ = some (.int .i64 ro') ∧ w'.cell? ⟨n12, 1, none⟩ = some (.slice Ao' qo'.length co')) (ds := []) #[false, false, false, false, false, false, false, false, false, false, false, false, false, false, false, false, false, false, false, false] (by kernel_rfl) rfl rfl ⟨p0, p1, p2, p3⟩ (fun hHeld => ?_)
            refine pure_ (i := 0) (N := some 77) (v := ?_) (a' := ?_) #[true, false, false, false, false, false, false, false, false, false, false, false, false, false, false, false, false, false, false, false] rfl rfl (by kernel_rfl) (fun _ _ _ h => h) (Or.inl ⟨by rfl, ?_⟩) ?_ ?_
            rotate_left
            · intro w'
              go_simp
              with_reducible rfl
            rotate_left
            · simp only [Act.put, List.setIfInBounds_toArray, List.set_cons_zero, List.set_cons_succ, i64_w, i32_w]
              rfl
            refine pure_ (i := 1) (N := some 78) (v := ?_) (a' := ?_) #[true, true, false, false, false, false, false, false, false, false, false, false, false, false, false, false, false, false, false, false] rfl rfl (by kernel_rfl) (fun _ _ _ h => h) (Or.inl ⟨by rfl, ?_⟩) ?_ ?_
            rotate_left
            · intro w'
              go_simp
              with_reducible rfl
            rotate_left
            · simp only [Act.put, List.setIfInBounds_toArray, List.set_cons_zero, List.set_cons_succ, i64_w, i32_w]
              rfl
            refine pure_ (i := 4) (N := some 81) (v := ?_) (a' := ?_) #[true, true, false, false, true, false, false, false, false, false, false, false, false, false, false, false, false, false, false, false] rfl rfl (by kernel_rfl) (fun _ _ _ h => h) (Or.inl ⟨by rfl, ?_⟩) ?_ ?_
            rotate_left
            · intro w'
              go_simp
              with_reducible rfl
            rotate_left
            · simp only [Act.put, List.setIfInBounds_toArray, List.set_cons_zero, List.set_cons_succ, i64_w, i32_w]
              rfl
            refine take_ (i := 3) (N := some 80) (v := ?_) (a' := ?_) #[true, true, false, true, true, false, false, false, false, false, false, false, false, false, false, false, false, false, false, false] rfl rfl (by kernel_rfl) (fun _ _ _ h => h) (Or.inl ⟨by rfl, ?_⟩) hHeld ?_ ?_
            rotate_left
            · rintro w' ⟨s0, s1, s2, s3⟩
              go_simp
              with_reducible rfl
            rotate_left
            · simp only [Act.put, List.setIfInBounds_toArray, List.set_cons_zero, List.set_cons_succ, i64_w, i32_w]
              rfl
            refine one_ (i := 2) (N := some 79) #[true, true, true, true, true, false, false, false, false, false, false, false, false, false, false, false, false, false, false, false] rfl rfl (by kernel_rfl) (by decide) (fun K hK => ?_)
            have HX := Aside0.mk (HX.out.step (below_drew (Below.refl _ _)))
            refine goes_ Try.func13 (by kernel_rfl) rfl #[.pointer (some ⟨gp, 0, none⟩), .int .i64 kk] (by rfl) rfl rfl (by simp only [List.map_toArray, List.map_cons, List.map_nil]; rfl) ?_
            with_reducible refine (HX.out.len kk HN1.out).mono ?_
            rintro e w10 ⟨rfl, rfl⟩
            refine ⟨_, rfl, ?_⟩
            refine hK.out _ _ ⟨blk_cell (HX.out.box m0) 0, blk_cell (HX.out.box m0) 1, blk_cell (HX.out.box m1) 0, blk_cell (HX.out.box m1) 1⟩ (fun hHeld => ?_)
            clear hK K
            refine norm_ (a' := ?_) ?_ ?_
            rotate_left
            · show Act.put _ (some 79) _ = _
              simp only [Act.put, List.setIfInBounds_toArray, List.set_cons_zero, List.set_cons_succ, i64_w, i32_w]
              rfl
            refine one_ (i := 5) (N := some 82) #[true, true, true, true, true, true, false, false, false, false, false, false, false, false, false, false, false, false, false, false] rfl rfl (by kernel_rfl) (by decide) (fun K hK => ?_)
            refine goes_ Try.func20 (by kernel_rfl) rfl #[.agg #[.int .i64 (room : Int), .slice A9 users c9], .int .i64 kk] (by rfl) rfl rfl (by simp only [List.map_toArray, List.map_cons, List.map_nil]; rfl) ?_
            with_reducible refine (rlenE HX.out hl kk HN1.out).mono ?_
            rintro e w11 ⟨rfl, hE⟩
            refine ⟨_, rfl, ?_⟩
            have HX := Aside0.mk hE
            clear hE
            refine hK.out _ _ ⟨blk_cell (HX.out.box m0) 0, blk_cell (HX.out.box m0) 1, blk_cell (HX.out.box m1) 0, blk_cell (HX.out.box m1) 1⟩ (fun hHeld => ?_)
            clear hK K
            refine norm_ (a' := ?_) ?_ ?_
            rotate_left
            · show Act.put _ (some 82) _ = _
              simp only [Act.put, List.setIfInBounds_toArray, List.set_cons_zero, List.set_cons_succ, i64_w, i32_w]
              rfl
            refine pure_ (i := 6) (N := some 83) (v := ?_) (a' := ?_) #[true, true, true, true, true, true, true, false, false, false, false, false, false, false, false, false, false, false, false, false] rfl rfl (by kernel_rfl) (fun _ _ _ h => h) (Or.inl ⟨by rfl, ?_⟩) ?_ ?_
            rotate_left
            · intro w'
              go_simp
              with_reducible rfl
            rotate_left
            · simp only [Act.put, List.setIfInBounds_toArray, List.set_cons_zero, List.set_cons_succ, i64_w, i32_w]
              rfl
            refine pure_ (i := 7) (N := some 84) (v := ?_) (a' := ?_) #[true, true, true, true, true, true, true, true, false, false, false, false, false, false, false, false, false, false, false, false] rfl rfl (by kernel_rfl) (fun _ _ _ h => h) (Or.inl ⟨by rfl, ?_⟩) ?_ ?_
            rotate_left
            · intro w'
              go_simp
              with_reducible rfl
            rotate_left
            · simp only [Act.put, List.setIfInBounds_toArray, List.set_cons_zero, List.set_cons_succ, i64_w, i32_w]
              rfl
            refine pure_ (i := 8) (N := some 85) (v := ?_) (a' := ?_) #[true, true, true, true, true, true, true, true, true, false, false, false, false, false, false, false, false, false, false, false] rfl rfl (by kernel_rfl) (fun _ _ _ h => h) (Or.inl ⟨by rfl, ?_⟩) ?_ ?_
            rotate_left
            · intro w'
              go_simp
              with_reducible rfl
            rotate_left
            · simp only [Act.put, List.setIfInBounds_toArray, List.set_cons_zero, List.set_cons_succ, i64_w, i32_w]
              rfl
            refine pure_ (i := 9) (N := some 86) (v := ?_) (a' := ?_) #[true, true, true, true, true, true, true, true, true, true, false, false, false, false, false, false, false, false, false, false] rfl rfl (by kernel_rfl) (fun _ _ _ h => h) (Or.inl ⟨by rfl, ?_⟩) ?_ ?_
            rotate_left
            · intro w'
              go_simp
              with_reducible rfl
            rotate_left
            · simp only [Act.put, List.setIfInBounds_toArray, List.set_cons_zero, List.set_cons_succ, i64_w, i32_w]
              rfl
            refine pure_ (i := 10) (N := some 87) (v := ?_) (a' := ?_) #[true, true, true, true, true, true, true, true, true, true, true, false, false, false, false, false, false, false, false, false] rfl rfl (by kernel_rfl) (fun _ _ _ h => h) (Or.inl ⟨by rfl, ?_⟩) ?_ ?_
            rotate_left
            · intro w'
              go_simp
              with_reducible rfl
            rotate_left
            · simp only [Act.put, List.setIfInBounds_toArray, List.set_cons_zero, List.set_cons_succ, i64_w, i32_w]
              rfl
            refine pure_ (i := 11) (N := some 88) (v := ?_) (a' := ?_) #[true, true, true, true, true, true, true, true, true, true, true, true, false, false, false, false, false, false, false, false] rfl rfl (by kernel_rfl) (fun _ _ _ h => h) (Or.inl ⟨by rfl, ?_⟩) ?_ ?_
            rotate_left
            · intro w'
              go_simp
              with_reducible rfl
            rotate_left
            · simp only [Act.put, List.setIfInBounds_toArray, List.set_cons_zero, List.set_cons_succ, i64_w, i32_w]
              rfl
            refine pure_ (i := 12) (N := some 89) (v := ?_) (a' := ?_) #[true, true, true, true, true, true, true, true, true, true, true, true, true, false, false, false, false, false, false, false] rfl rfl (by kernel_rfl) (fun _ _ _ h => h) (Or.inl ⟨by rfl, ?_⟩) ?_ ?_
            rotate_left
            · intro w'
              go_simp
              with_reducible rfl
            rotate_left
            · simp only [Act.put, List.setIfInBounds_toArray, List.set_cons_zero, List.set_cons_succ, i64_w, i32_w]
              rfl
            refine pure_ (i := 15) (N := some 92) (v := ?_) (a' := ?_) #[true, true, true, true, true, true, true, true, true, true, true, true, true, false, false, true, false, false, false, false] rfl rfl (by kernel_rfl) (fun _ _ _ h => h) (Or.inl ⟨by rfl, ?_⟩) ?_ ?_
            rotate_left
            · intro w'
              go_simp
              with_reducible rfl
            rotate_left
            · simp only [Act.put, List.setIfInBounds_toArray, List.set_cons_zero, List.set_cons_succ, i64_w, i32_w]
              rfl
            refine take_ (i := 14) (N := some 91) (v := ?_) (a' := ?_) #[true, true, true, true, true, true, true, true, true, true, true, true, true, false, true, true, false, false, false, false] rfl rfl (by kernel_rfl) (fun _ _ _ h => h) (Or.inl ⟨by rfl, ?_⟩) hHeld ?_ ?_
            rotate_left
            · rintro w' ⟨s0, s1, s2, s3⟩
              go_simp
              with_reducible rfl
            rotate_left
            · simp only [Act.put, List.setIfInBounds_toArray, List.set_cons_zero, List.set_cons_succ, i64_w, i32_w]
              rfl
            refine one_ (i := 13) (N := some 90) #[true, true, true, true, true, true, true, true, true, true, true, true, true, true, true, true, false, false, false, false] rfl rfl (by kernel_rfl) (by decide) (fun K hK => ?_)
            refine goes_ Try.func13 (by kernel_rfl) rfl #[.pointer (some ⟨gc, 0, none⟩), .int .i64 kk] (by rfl) rfl rfl (by simp only [List.map_toArray, List.map_cons, List.map_nil]; rfl) ?_
            with_reducible refine (HX.out.clen kk HN2.out).mono ?_
            rintro e w12 ⟨rfl, rfl⟩
            refine ⟨_, rfl, ?_⟩
            refine hK.out _ _ ⟨blk_cell (HX.out.box m0) 0, blk_cell (HX.out.box m0) 1, blk_cell (HX.out.box m1) 0, blk_cell (HX.out.box m1) 1⟩ (fun hHeld => ?_)
            clear hK K
            refine norm_ (a' := ?_) ?_ ?_
            rotate_left
            · show Act.put _ (some 90) _ = _
              simp only [Act.put, List.setIfInBounds_toArray, List.set_cons_zero, List.set_cons_succ, i64_w, i32_w]
              rfl
            refine one_ (i := 16) (N := some 93) #[true, true, true, true, true, true, true, true, true, true, true, true, true, true, true, true, true, false, false, false] rfl rfl (by kernel_rfl) (by decide) (fun K hK => ?_)
            refine goes_ Try.func20 (by kernel_rfl) rfl #[.agg #[.int .i64 ro', .slice Ao' qo'.length co'], .int .i64 kk] (by rfl) rfl rfl (by simp only [List.map_toArray, List.map_cons, List.map_nil]; rfl) ?_
            with_reducible refine (HX.out.rolen ro' kk HN2.out).mono ?_
            rintro e w13 ⟨rfl, hE⟩
            refine ⟨_, rfl, ?_⟩
            have HX := Aside0.mk hE
            clear hE
            refine hK.out _ _ ⟨blk_cell (HX.out.box m0) 0, blk_cell (HX.out.box m0) 1, blk_cell (HX.out.box m1) 0, blk_cell (HX.out.box m1) 1⟩ (fun hHeld => ?_)
            clear hK K
            refine norm_ (a' := ?_) ?_ ?_
            rotate_left
            · show Act.put _ (some 93) _ = _
              simp only [Act.put, List.setIfInBounds_toArray, List.set_cons_zero, List.set_cons_succ, i64_w, i32_w]
              rfl
            refine pure_ (i := 17) (N := some 94) (v := ?_) (a' := ?_) #[true, true, true, true, true, true, true, true, true, true, true, true, true, true, true, true, true, true, false, false] rfl rfl (by kernel_rfl) (fun _ _ _ h => h) (Or.inl ⟨by rfl, ?_⟩) ?_ ?_
            rotate_left
            · intro w'
              go_simp
              with_reducible rfl
            rotate_left
            · simp only [Act.put, List.setIfInBounds_toArray, List.set_cons_zero, List.set_cons_succ, i64_w, i32_w]
              rfl
            refine pure_ (i := 18) (N := some 95) (v := ?_) (a' := ?_) #[true, true, true, true, true, true, true, true, true, true, true, true, true, true, true, true, true, true, true, false] rfl rfl (by kernel_rfl) (fun _ _ _ h => h) (Or.inl ⟨by rfl, ?_⟩) ?_ ?_
            rotate_left
            · intro w'
              go_simp
              with_reducible rfl
            rotate_left
            · simp only [Act.put, List.setIfInBounds_toArray, List.set_cons_zero, List.set_cons_succ, i64_w, i32_w]
              rfl
            refine pure_ (i := 19) (N := some 96) (v := ?_) (a' := ?_) #[true, true, true, true, true, true, true, true, true, true, true, true, true, true, true, true, true, true, true, true] rfl rfl (by kernel_rfl) (fun _ _ _ h => h) (Or.inl ⟨by rfl, ?_⟩) ?_ ?_
            rotate_left
            · intro w'
              go_simp
              with_reducible rfl
            rotate_left
            · simp only [Act.put, List.setIfInBounds_toArray, List.set_cons_zero, List.set_cons_succ, i64_w, i32_w]
              rfl
            refine done_ (by kernel_rfl) ?_

            have hkk := HK.out
            have e1 : wrap64 (kk + 1) = (j : Int) := by unfold wrap64; omega
            clear hkk p0 p1 p2 p3
            go_wp2
            exact ⟨⟨j + 1, by omega, congrArg (Value.int .i64) (by omega), HX⟩, by have := HK.out; simp [intOf]; omega⟩
          · obtain rfl : j = users + 2 := by omega
            have j0 : ¬ (((users + 2 : Nat) : Int) - 1 ≤ (users : Int)) := by omega
            have j1 : decide (((users + 2 : Nat) : Int) - 1 ≤ (users : Int)) = false := decide_eq_false j0
            have j2 : decide ((users : Int) + 2 - 1 ≤ (users : Int)) = false := decide_eq_false (by omega)
            have j3 : ¬ ((users : Int) + 2 - 1 ≤ (users : Int)) := by omega
            go_wp2
            exact ⟨⟨i + 1, q', A9, c9, ro', qo', Ao', co', (some (gc, mbs')), by omega, rfl, by go_num, HLq, HX⟩, by simp [intOf]; omega⟩
    · have i1 : ¬ ((i : Int) < (l2.length : Int)) := by omega
      go_wp2_with (go_at_call 12; (with_reducible refine (awake_calls _).mono ?_); rintro e w9 ⟨rfl, hb⟩; have HB9 := Aside0.mk (below_step HX.out.below hb); clear hb)
      go_ret
      exact ⟨rfl, HB9.out⟩
end Go.Proofs.Ytclhddldbfdfdaa.PoW
