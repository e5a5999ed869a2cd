/- Variables of one cell that closures share: what stands, what turns. -/
import Derived.Test.YtkaacdfikaggfaaWWords
import Derived.Test.YtkaacdfikaggfaaWLast
import Derived.Test.YtkaacdfikaggfaaWMore
import Derived.Test.YtkaacdfikaggfaaProg
import Derived.WalkKit
import Derived.Deep.LoopGhost
import Derived.OneCell
namespace Go.Proofs.Ytkaacdfikaggfaa.Vars
open Go.RowKit Go.Proofs.YtkaacdfikaggfaaW.PrintWords
set_option linter.unusedVariables false

theorem lt_of_block {w : World} {g : Nat} {o : Obj} (h : w.heap[g]? = some o) : g < w.heap.size := (Array.getElem?_eq_some_iff.1 h).1
theorem Kd_R_iso {α β : Type} {d : Kd α} {f : β → α} {e : Nat} {w : World} {base : Nat} {ok : Nat → Prop} {v : Value} {xs : List β} : Kd.R (Kd.iso d f) e w base ok v xs ↔ Kd.R d e w base ok v (xs.map f) := by
  unfold Kd.R OwnRow
  constructor
  · rintro ⟨h1, inner, ho, hr⟩
    refine ⟨h1, inner, by rw [List.length_map]; exact ho, by rw [List.length_map]; exact hr.1, fun j p hj => ?_⟩
    rw [List.getElem?_map, Option.map_eq_some_iff] at hj
    obtain ⟨q, hq, rfl⟩ := hj
    exact hr.2 j q hq
  · rintro ⟨h1, inner, ho, hr⟩
    rw [List.length_map] at ho
    refine ⟨h1, inner, ho, by have := hr.1; rw [List.length_map] at this; exact this, fun j p hj => ?_⟩
    exact hr.2 j (f p) (by rw [List.getElem?_map, hj]; rfl)
theorem Kd_C_iso {α β : Type} {d : Kd α} {f : β → α} {w : World} {A : Option Addr} {n : Nat} {xs : List β} : Kd.C (Kd.iso d f) w A n xs ↔ Kd.C d w A n (xs.map f) := by
  unfold Kd.C ReadsRow
  constructor
  · rintro ⟨h1, h2, h3⟩
    refine ⟨by rw [List.length_map]; exact h1, h2, fun hn => ?_⟩
    obtain ⟨ad, e, hc⟩ := h3 hn
    refine ⟨ad, e, fun j p hj => ?_⟩
    rw [List.getElem?_map, Option.map_eq_some_iff] at hj
    obtain ⟨q, hq, rfl⟩ := hj
    exact hc j q hq
  · rintro ⟨h1, h2, h3⟩
    refine ⟨by have := h1; rw [List.length_map] at this; exact this, h2, fun hn => ?_⟩
    obtain ⟨ad, e, hc⟩ := h3 hn
    refine ⟨ad, e, fun j p hj => ?_⟩
    exact hc j (f p) (by rw [List.getElem?_map, hj]; rfl)
/-- Two blocks may have turned; all others stand. -/
structure Keep2 (a b : Nat) (w w' : World) : Prop where
  os : w'.os = w.os
  tape : w'.tape = w.tape
  output : w'.output = w.output
  size : w'.heap.size = w.heap.size
  block : ∀ i, i ≠ a → i ≠ b → w'.heap[i]? = w.heap[i]?
theorem Keep2.refl (a b : Nat) (w : World) : Keep2 a b w w := ⟨rfl, rfl, rfl, rfl, fun _ _ _ => rfl⟩
theorem Keep2.trans {a b : Nat} {w w1 w2 : World} (h : Keep2 a b w w1) (k : Keep2 a b w1 w2) : Keep2 a b w w2 :=
  ⟨k.os.trans h.os, k.tape.trans h.tape, k.output.trans h.output, k.size.trans h.size, fun i x y => (k.block i x y).trans (h.block i x y)⟩
theorem Keep2.drewN {a b : Nat} {w w1 : World} (h : Keep2 a b w w1) (n : Nat) : Keep2 a b w (w1.drewN n) := ⟨h.os, h.tape, h.output, h.size, h.block⟩
theorem heap_set_size (w : World) (p : Addr) (v : Value) : (w.setCell p v).heap.size = w.heap.size := by
  unfold World.setCell
  split <;> simp
theorem Keep2.set {a b : Nat} {w w1 : World} (h : Keep2 a b w w1) (p : Addr) (v : Value) (hp : p.block = a ∨ p.block = b) : Keep2 a b w (w1.setCell p v) :=
  ⟨by rw [← h.os]; rfl, by rw [← h.tape]; rfl, by rw [← h.output]; rfl, by rw [heap_set_size, h.size], fun i x y => by
    rw [Below.heap_setCell w1 p v i (by rcases hp with e | e <;> (rw [e]; assumption))]
    exact h.block i x y⟩

/-- A variable of one cell. -/
def Var (w : World) (g : Nat) (t : TypeId) (v : Value) : Prop := w.heap[g]? = some (.cells #[v] t (0, 0))
theorem Var.cell {w : World} {g : Nat} {t : TypeId} {v : Value} (h : Var w g t v) : w.cell? ⟨g, 0, none⟩ = some v := by unfold Var at h; simp [World.cell?, h]
theorem Var.free {w : World} {g : Nat} {t : TypeId} {v : Value} (h : Var w g t v) : w.frozen? ⟨g, 0, none⟩ = false := by unfold Var at h; simp [World.frozen?, h]
theorem Var.set {w : World} {g : Nat} {t : TypeId} {v : Value} (h : Var w g t v) (u : Value) : Var (w.setCell ⟨g, 0, none⟩ u) g t u := by
  exact one_setCell h
theorem Var.other {w : World} {g g' : Nat} {t : TypeId} {v : Value} (h : Var w g t v) (hne : g ≠ g') (i : Nat) (u : Value) : Var (w.setCell ⟨g', i, none⟩ u) g t v := by
  unfold Var at *
  rw [Below.heap_setCell w _ u g hne]; exact h
theorem Var.keep {w w' : World} {a b g : Nat} {t : TypeId} {v : Value} (h : Var w g t v) (hk : Keep2 a b w w') (h1 : g ≠ a) (h2 : g ≠ b) : Var w' g t v := (hk.block g h1 h2).trans h

theorem Var.below {w w' : World} {g : Nat} {t : TypeId} {v : Value} (h : Var w g t v) (hb : Below w.heap.size w w') : Var w' g t v := (hb.block g (lt_of_block h)).trans h
theorem Var.lt {w : World} {g : Nat} {t : TypeId} {v : Value} (h : Var w g t v) : g < w.heap.size := lt_of_block h
end Go.Proofs.Ytkaacdfikaggfaa.Vars
