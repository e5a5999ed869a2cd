/- awake. -/
import Derived.Test.YtclhddldbfdfdaaPoL0
import Derived.Laws.StructEq
namespace Go.Proofs.Ytclhddldbfdfdaa.PoW
open Go.RowKit Go.Proofs.YtclhddldbfdfdaaW.PrintWords Go.Proofs.YtclhddldbfdfdaaW.PrintMore Go.Proofs.YtclhddldbfdfdaaW.PrintLast Go.Proofs.Ytclhddldbfdfdaa.LabF Go.Proofs.Ytclhddldbfdfdaa.SetF
set_option linter.unusedVariables false
set_option linter.unusedSimpArgs false
theorem lack_one (a tw : Int) : lackL [a] tw = if a = 2 * tw + 1 then [] else [a] := by
  refine rises_ext (lacks_rises _ _ _ _) (by split <;> simp [Rises]) fun x => ?_
  unfold lackL
  rw [mem_lacks]
  split
  · rename_i h
    subst h
    simp
  · rename_i h
    simp only [List.mem_singleton, List.not_mem_nil, false_and, or_false]
    exact ⟨fun h => h.1, fun h2 => ⟨h2, fun e => h (by omega)⟩⟩
theorem cats_one {a : Int} (h : 1 ≤ a ∧ a ≤ 2147483647) : Cats [a] := ⟨by simp [Rises], fun c hc => by rw [List.mem_singleton] at hc; omega⟩
/-- A subject's own sending. -/
theorem send_subj (L : List (List Msg)) (room : Nat) (who tw : Int) (text : ByteArray) (op : Bool) (hL : L.length ≤ 16) (hw : 0 ≤ who ∧ who < (L.length : Int)) (ht : 0 ≤ tw ∧ tw < (L.length : Int)) (hx : text.size ≤ 1024) :
    sendL L room who [2 * who + 1] [] [2 * who + 1] tw text op = if op = true ∨ who = tw then (if who = tw then [] else [2 * who + 1], 0, pushL L room tw.toNat (who, text)) else ([], 0, L) := by
  have hc : Cats [2 * who + 1] := cats_one (by omega)
  have hm : May [2 * who + 1] [] := ⟨by simp, by simp, hc, cats_nil⟩
  unfold sendL
  rw [if_neg (not_not_intro ⟨hw, ht⟩), if_neg (not_not_intro hc), if_neg (not_not_intro hm), if_neg (by omega), lack_one]
  by_cases e : who = tw
  · subst e
    rw [if_pos rfl, if_neg (not_not_intro (show Within [] _ from fun x hx => by cases hx)), if_pos (.inr rfl), if_pos rfl]
  · have e2 : ¬ (2 * who + 1 = 2 * tw + 1) := by omega
    rw [if_neg e2]
    cases op with
    | true => rw [if_neg (not_not_intro (show Within _ _ from fun x hx => by simpa using hx)), if_pos (.inl rfl), if_neg e]
    | false =>
      rw [if_pos (show ¬ Within _ _ from fun h => by have := h (2 * who + 1) (by simp); simp at this), if_neg (by simp [e])]
section
variable {w0 W W' : World} {gp room : Nat} {L : List (List Msg)} {rs : List (Option Addr × Nat × List Int)} {bs : List (Nat × Array Value × TypeId)}
theorem PS.sendS (h : PS w0 gp room L rs bs W) {who : Int} {a b : Option Addr} (h0 : Rd W a 1 [2 * who + 1]) (h2 : Rd W b 1 [2 * who + 1]) (tw : Int) (text : ByteArray) (op : Bool) {rl : List Int} {re : Int} {L' : List (List Msg)} {n : Nat} (hr : sendL L room who [2 * who + 1] [] [2 * who + 1] tw text op = (rl, re, L')) (hn : rl.length = n) :
    Calls Try.prog 9 #[.pointer (some ⟨gp, 0, none⟩), .agg #[.int .i64 who, .slice a 1 1, .slice none 0 0, .slice b 1 1], .int .i64 tw, .string text, .bool op] W fun e W' => ∃ A c, e = .returned (.tuple #[.slice A n c, .int .i64 re]) ∧ PS w0 gp room L' ((A, c, rl) :: rs) bs W' := by
  subst hn
  exact h.send h0 (Rd.nil _) h2 (by simp) tw text op hr
theorem PS.takeS (h : PS w0 gp room L rs bs W) (who : Int) {f : Int} {x : ByteArray} {b : Bool} {L' : List (List Msg)} (hr : takeL L who = ((f, x), b, L')) :
    Calls Try.prog 11 #[.pointer (some ⟨gp, 0, none⟩), .int .i64 who] W fun e W' => e = .returned (.tuple #[.agg #[.int .i64 f, .string x], .bool b]) ∧ PS w0 gp room L' rs bs W' := h.take who hr
/-- The reference's Same against a literal of one. -/
theorem PS.same1 (h : PS w0 gp room L rs bs W) {A : Option Addr} {c n : Nat} {l : List Int} {x : Int} (hm : (A, c, l) ∈ rs) (hl : l.length ≤ 17592186044415) (hn : l.length = n) {b : Bool} (hb : decide (l = [x]) = b) {k : Nat} (hk : W.heap.size = k) :
    Calls Try.prog 16 #[.slice A n c, .slice (some ⟨k, 0, none⟩) 1 1] (W.alloc (.cells #[.int .i64 x] 3)) fun e w' => e = .returned (.bool b) ∧ PS w0 gp room L rs bs w' := by
  subst hn hk
  have h1 := h.step (W' := W.alloc (.cells #[.int .i64 x] 3)) (below_alloc (Below.refl _ _) _)
  exact h1.same (h1.row hm) (l1 := [x]) ⟨Nat.le_refl _, Hand.lit1 W x⟩ hl hb
end
/-- '==' of messages. -/
theorem eqM (a b : Msg) (w : World) : (Op.equalIn 10000 37 (.agg #[.int .i64 a.1, .string a.2]) (.agg #[.int .i64 b.1, .string b.2])).run Try.prog w = .ok (a.1 == b.1 && a.2.toList == b.2.toList) w := by
  have u3 := Try.underlying3
  have hS : Try.prog.underlying 37 = some (.struct (Try.prog.fieldsOf 37)) := by kernel_rfl
  have hp : Try.prog.stoodInHeld 37 = false := by kernel_rfl
  rw [show (10000 : Nat) = 9999 + 1 from rfl, run_equalIn_agg w 9999 37 _ _ hS hp]
  simp only [Program.fieldsOf, Try.underlying37]
  go_simp
  by_cases h1 : a.1 = b.1 <;> by_cases h2 : a.2.toList = b.2.toList <;> simp [h1, h2]
theorem psnew (w : World) : Calls Try.prog 8 #[.int .i64 2, .int .i64 4] w fun e W' => ∃ gp, e = .returned (.tuple #[.pointer (some ⟨gp, 0, none⟩), .int .i64 0]) ∧ PS w gp 4 [[], []] [] [] W' := PS.new w w (Below.refl _ _) 2 4 (by decide) (by decide) (by decide) (by decide)
theorem aw1 : sendL [[], []] 4 0 [2 * 0 + 1] [] [2 * 0 + 1] 1 ⟨#[97]⟩ true = ([1], 0, [[], [(0, ⟨#[97]⟩)]]) := by
  rw [send_subj _ _ _ _ _ _ (by decide) (by decide) (by decide) (by decide)]; rfl
theorem aw2 : sendL [[], [(0, ⟨#[97]⟩)]] 4 0 [2 * 0 + 1] [] [2 * 0 + 1] 1 ⟨#[98]⟩ false = ([], 0, [[], [(0, ⟨#[97]⟩)]]) := by
  rw [send_subj _ _ _ _ _ _ (by decide) (by decide) (by decide) (by decide)]; rfl
theorem aw3 : takeL [[], [(0, ⟨#[97]⟩)]] 1 = ((0, ⟨#[97]⟩), true, [[], []]) := rfl
theorem aw4 : takeL [[], []] 1 = ((0, ⟨#[]⟩), false, [[], []]) := rfl
set_option maxHeartbeats 4000000 in
set_option maxRecDepth 100000 in
theorem awake_calls (w : World) : Calls Try.prog 12 #[] w fun e w' => e = .returned (.bool true) ∧ Below w.heap.size w w' := by
  have hEq := fun (w : World) => eqM (0, ⟨#[97]⟩) (0, ⟨#[97]⟩) w
  have HSb := Aside0.mk (fun w => subject_calls 0 (by decide) (by decide) w)
  go_enter Try.func12, Try.ntmps12
  go_wp2_with (first
    | (go_at_call 8; (with_reducible refine (psnew w).mono ?_); rintro e w1 ⟨gp, rfl, hp⟩; have HP := Aside0.mk hp; clear hp)
    | (go_at_call 10; (with_reducible refine (HSb.out _).mono ?_); rintro e w2 ⟨a, b, rfl, h1, h2, hb⟩; have nP := Aside0.mk (HP.out.step hb); have HA := Aside0.mk h1; have HB := Aside0.mk h2; clear HP h1 h2 hb; have HP := nP; clear nP)
    | (go_at_call 9; (with_reducible refine (HP.out.sendS HA.out HB.out 1 ⟨#[97]⟩ true aw1 rfl).mono ?_); rintro e w3 ⟨A3, c3, rfl, hp⟩; clear HP HA HB; have HP := Aside0.mk hp; clear hp)
    | (go_at_call 9; (with_reducible refine (HP.out.sendS HA.out HB.out 1 ⟨#[98]⟩ false aw2 rfl).mono ?_); rintro e w4 ⟨A4, c4, rfl, hp⟩; clear HP HA HB; have HP := Aside0.mk hp; clear hp)
    | (go_at_call 11; (with_reducible refine (HP.out.takeS 1 aw3).mono ?_); rintro e w5 ⟨rfl, hp⟩; have HQ := Aside0.mk (hp.boxed #[.int .i64 0, .string ⟨#[97]⟩] 37); clear HP hp)
    | (go_at_call 11; (with_reducible refine (HQ.out.takeS 1 aw4).mono ?_); rintro e w6 ⟨rfl, hp⟩; have HR := Aside0.mk (hp.boxed #[.int .i64 0, .string ⟨#[]⟩] 37); clear HQ hp)
    | (go_at_call 16; (with_reducible refine (HR.out.same1 (x := 1) (n := 1) (k := w6.heap.size + 1) (List.mem_cons_of_mem _ List.mem_cons_self) (by simp) (by simp) (b := true) (by decide) (by simp)).mono ?_); rintro e w7 ⟨rfl, hp⟩; have hx := hp.box (List.mem_cons_of_mem _ List.mem_cons_self); have m0 : w7.cell? ⟨w5.heap.size, 0, none⟩ = some (.int .i64 0) := blk_cell hx 0; have m1 : w7.cell? ⟨w5.heap.size, 1, none⟩ = some (.string ⟨#[97]⟩) := blk_cell hx 1; have HQ := Aside0.mk hp; clear HR hp hx))
  go_ret
  exact ⟨rfl, HQ.out.below⟩
end Go.Proofs.Ytclhddldbfdfdaa.PoW
