/- row.Of by hand. -/
import Derived.Test.YthphoifaingbkaaRowOfF
import Derived.Deep.RegionHeld3
import Derived.Deep.AppendLies
import Derived.OwnWalk
import Derived.Laws.EntriesVeiled
import Derived.RegionTactic
import Derived.BigRegion
namespace Go.Proofs.Ythphoifaingbkaa.RowOf
open Go.RowKit Go.Proofs.YthphoifaingbkaaW.PrintWords Go.Proofs.YthphoifaingbkaaW.PrintLast Go.Proofs.YthphoifaingbkaaW.PrintMore Go.Proofs.Ythphoifaingbkaa.Pof
set_option linter.unusedVariables false
set_option linter.unusedSimpArgs false

theorem heap_alloc (w : World) (o : Obj) (i : Nat) : (w.alloc o).heap[i]? = if i = w.heap.size then some o else w.heap[i]? := by
  show (w.heap.push o)[i]? = _
  rw [Array.getElem?_push]
def cntV (g : Nat) : Value := .func (.func 31) #[] #[.pointer (some ⟨g + 1 + 1 + 1, 0, none⟩), .pointer (some ⟨g + 1 + 1, 0, none⟩), .pointer (some ⟨g, 0, none⟩)]
def zeroRow : Obj := .cells #[.string ⟨#[]⟩, .slice none 0 0, .slice none 0 0, .slice none 0 0, .int .i64 0] 27 (0, 0)
/-- The reader's variables: the text, whether all went well, where it stands, the first closure; the result's own place. -/
structure Env (s : ByteArray) (g : Nat) (w W : World) (ok : Bool) (a : Nat) : Prop where
  S : Var W g 9 (.string s)
  Z : W.heap[g + 1]? = some zeroRow
  A : Var W (g + 1 + 1) 3 (.int .i64 (a : Int))
  O : Var W (g + 1 + 1 + 1) 4 (.bool ok)
  C : Var W (g + 1 + 1 + 1 + 1) 54 (cntV g)
  B : Below w.heap.size w W
  L : g + 1 + 1 + 1 + 1 + 1 ≤ W.heap.size
  G : g = w.heap.size
theorem Env.step {s : ByteArray} {g : Nat} {w W W' : World} {ok ok' : Bool} {a a' : Nat} (h : Env s g w W ok a) (hO : Var W' (g + 1 + 1 + 1) 4 (.bool ok')) (hA : Var W' (g + 1 + 1) 3 (.int .i64 (a' : Int))) (hK : Keep2 (g + 1 + 1 + 1) (g + 1 + 1) W W') : Env s g w W' ok' a' where
  S := h.S.keep hK (by omega) (by omega)
  Z := (hK.block _ (by omega) (by omega)).trans h.Z
  A := hA
  O := hO
  C := h.C.keep hK (by omega) (by omega)
  B := ⟨hK.os.trans h.B.os, hK.tape.trans h.B.tape, hK.output.trans h.B.output, by rw [hK.size]; exact h.B.size, fun k hk => (hK.block k (by have := h.G; omega) (by have := h.G; omega)).trans (h.B.block k hk)⟩
  L := by rw [hK.size]; exact h.L
  G := h.G
theorem Var.alloc {w : World} {g : Nat} {t : TypeId} {v : Value} (h : Var w g t v) (o : Obj) : Var (w.alloc o) g t v := by
  unfold Var at *
  rw [heap_alloc, if_neg (by have := lt_of_block h; omega)]; exact h
theorem Env.alloc {s : ByteArray} {g : Nat} {w W : World} {ok : Bool} {a : Nat} (h : Env s g w W ok a) (o : Obj) : Env s g w (W.alloc o) ok a where
  S := h.S.alloc o
  Z := by rw [heap_alloc, if_neg (by have := h.L; omega)]; exact h.Z
  A := h.A.alloc o
  O := h.O.alloc o
  C := h.C.alloc o
  B := below_alloc h.B o
  L := by have := h.L; simp; omega
  G := h.G
theorem Env.below {s : ByteArray} {g : Nat} {w W W' : World} {ok : Bool} {a : Nat} (h : Env s g w W ok a) (hb : Below W.heap.size W W') : Env s g w W' ok a where
  S := (hb.block _ (by have := h.L; omega)).trans h.S
  Z := (hb.block _ (by have := h.L; omega)).trans h.Z
  A := (hb.block _ (by have := h.L; omega)).trans h.A
  O := (hb.block _ (by have := h.L; omega)).trans h.O
  C := (hb.block _ (by have := h.L; omega)).trans h.C
  B := below_step h.B hb
  L := Nat.le_trans h.L hb.size
  G := h.G
/-- Another block of the call's own is written, or grown. -/
theorem Env.grown {s : ByteArray} {g : Nat} {w W W' : World} {ok : Bool} {a : Nat} (h : Env s g w W ok a) {row : Option Nat} (hg : W.grownBy W' row) (hr : ∀ k, row = some k → g + 1 + 1 + 1 + 1 < k) : Env s g w W' ok a where
  S := (hg.block _ (by have := h.L; omega) (fun e => by have := hr _ e.symm; omega)).trans h.S
  Z := (hg.block _ (by have := h.L; omega) (fun e => by have := hr _ e.symm; omega)).trans h.Z
  A := (hg.block _ (by have := h.L; omega) (fun e => by have := hr _ e.symm; omega)).trans h.A
  O := (hg.block _ (by have := h.L; omega) (fun e => by have := hr _ e.symm; omega)).trans h.O
  C := (hg.block _ (by have := h.L; omega) (fun e => by have := hr _ e.symm; omega)).trans h.C
  B := pw_below_grown h.B row h.B.size hg (fun k e => by have := hr k e; have := h.G; omega)
  L := Nat.le_trans h.L hg.size
  G := h.G
theorem Env.set {s : ByteArray} {g : Nat} {w W : World} {ok : Bool} {a : Nat} (h : Env s g w W ok a) (p : Addr) (u : Value) (hp : g + 1 + 1 + 1 + 1 < p.block) : Env s g w (W.setCell p u) ok a where
  S := (Below.heap_setCell W p u _ (by omega)).trans h.S
  Z := (Below.heap_setCell W p u _ (by omega)).trans h.Z
  A := (Below.heap_setCell W p u _ (by omega)).trans h.A
  O := (Below.heap_setCell W p u _ (by omega)).trans h.O
  C := (Below.heap_setCell W p u _ (by omega)).trans h.C
  B := h.B.setCell (by have := h.G; omega) u
  L := by rw [heap_set_size]; exact h.L
  G := h.G
theorem heap_new (w : World) (o : Obj) {i : Nat} (h : i = w.heap.size) : (w.alloc o).heap[i]? = some o := by rw [heap_alloc, if_pos h]
theorem heap_old (w : World) (o : Obj) {i : Nat} (h : i ≠ w.heap.size) : (w.alloc o).heap[i]? = w.heap[i]? := by rw [heap_alloc, if_neg h]
theorem Env.start (s : ByteArray) (w : World) : Env s w.heap.size w (((((w.alloc (.cells #[.string s] 9)).alloc zeroRow).alloc (.cells #[.int .i64 0] 3)).alloc (.cells #[.bool true] 4)).alloc (.cells #[cntV w.heap.size] 54)) true 0 where
  S := by unfold Var; rw [heap_old _ _ (by simp; omega), heap_old _ _ (by simp; omega), heap_old _ _ (by simp; omega), heap_old _ _ (by simp), heap_new _ _ rfl]
  Z := by rw [heap_old _ _ (by simp), heap_old _ _ (by simp), heap_old _ _ (by simp), heap_new _ _ (by simp)]
  A := by unfold Var; rw [heap_old _ _ (by simp), heap_old _ _ (by simp), heap_new _ _ (by simp)]; rfl
  O := by unfold Var; rw [heap_old _ _ (by simp), heap_new _ _ (by simp)]
  C := by unfold Var; rw [heap_new _ _ (by simp)]
  B := by repeat (first | exact Below.refl _ _ | apply below_alloc)
  L := by simp
  G := rfl
/-- What the walk wants of the variables' cells. -/
theorem Env.cells {s : ByteArray} {g : Nat} {w W : World} {ok : Bool} {a : Nat} (h : Env s g w W ok a) :
    W.cell? ⟨g, 0, none⟩ = some (.string s) ∧ W.cell? ⟨g + 1 + 1, 0, none⟩ = some (.int .i64 (a : Int)) ∧ W.cell? ⟨g + 1 + 1 + 1, 0, none⟩ = some (.bool ok) ∧
    W.cell? ⟨g + 1 + 1 + 1 + 1, 0, none⟩ = some (.func (.func 31) #[] #[.pointer (some ⟨g + 1 + 1 + 1, 0, none⟩), .pointer (some ⟨g + 1 + 1, 0, none⟩), .pointer (some ⟨g, 0, none⟩)]) ∧
    W.frozen? ⟨g + 1 + 1, 0, none⟩ = false ∧ W.frozen? ⟨g + 1 + 1 + 1, 0, none⟩ = false :=
  ⟨h.S.cell, h.A.cell, h.O.cell, h.C.cell, h.A.free, h.O.free⟩

theorem info9 : (Try.prog.info? 9).map (fun i => (i.zero, i.size, i.bytes)) = some (some (.string ⟨#[]⟩), 1, 16) := by kernel_rfl
def rowObj (key : ByteArray) (v1 v2 v3 : Value) (who : Int) : Obj := .cells #[.string key, v1, v2, v3, .int .i64 who] 27 (0, 0)

theorem Env.drew {s : ByteArray} {g : Nat} {w W : World} {ok : Bool} {a : Nat} (h : Env s g w W ok a) : Env s g w W.drew ok a where
  S := h.S
  Z := h.Z
  A := h.A
  O := h.O
  C := h.C
  B := below_drew1 h.B
  L := h.L
  G := h.G
theorem Env.setOk {s : ByteArray} {g : Nat} {w W : World} {ok : Bool} {a : Nat} (h : Env s g w W ok a) (ok' : Bool) : Env s g w (W.setCell ⟨g + 1 + 1 + 1, 0, none⟩ (.bool ok')) ok' a :=
  h.step (h.O.set _) (h.A.other (by omega) _ _) ((Keep2.refl _ _ _).set _ _ (.inl rfl))
theorem row_far {W : World} {g : Nat} {o : Obj} (h : W.heap[g]? = some o) (p : Addr) (u : Value) (hp : g ≠ p.block) : (W.setCell p u).heap[g]? = some o := (Below.heap_setCell W p u g hp).trans h
theorem row_set1 {W : World} {g : Nat} {key : ByteArray} {v1 v2 v3 : Value} {who : Int} (h : W.heap[g]? = some (rowObj key v1 v2 v3 who)) (u : Value) : (W.setCell ⟨g, 1, none⟩ u).heap[g]? = some (rowObj key u v2 v3 who) := by
  unfold World.setCell
  simp only [Array.getElem?_modify, if_true, h, rowObj, Option.map_some]
  rfl
theorem row_cell1 {W : World} {g : Nat} {key : ByteArray} {v1 v2 v3 : Value} {who : Int} (h : W.heap[g]? = some (rowObj key v1 v2 v3 who)) : W.cell? ⟨g, 1, none⟩ = some v1 := by rw [World.cell?]; simp [h, rowObj]
theorem row_free {W : World} {g : Nat} {key : ByteArray} {v1 v2 v3 : Value} {who : Int} (h : W.heap[g]? = some (rowObj key v1 v2 v3 who)) (i : Nat) : W.frozen? ⟨g, i, none⟩ = false := by simp [World.frozen?, h, rowObj]

theorem row_cells {W : World} {g : Nat} {key : ByteArray} {v1 v2 v3 : Value} {who : Int} (h : W.heap[g]? = some (rowObj key v1 v2 v3 who)) : W.cell? ⟨g, 0, none⟩ = some (.string key) ∧ W.cell? ⟨g, 1, none⟩ = some v1 ∧ W.cell? ⟨g, 2, none⟩ = some v2 ∧ W.cell? ⟨g, 3, none⟩ = some v3 ∧ W.cell? ⟨g, 4, none⟩ = some (.int .i64 who) := by simp [World.cell?, h, rowObj]
theorem zero_cells {W : World} {g : Nat} (h : W.heap[g]? = some zeroRow) : W.cell? ⟨g, 0, none⟩ = some (.string ⟨#[]⟩) ∧ W.cell? ⟨g, 1, none⟩ = some (.slice none 0 0) ∧ W.cell? ⟨g, 2, none⟩ = some (.slice none 0 0) ∧ W.cell? ⟨g, 3, none⟩ = some (.slice none 0 0) ∧ W.cell? ⟨g, 4, none⟩ = some (.int .i64 0) := by simp [World.cell?, h, zeroRow]
theorem zero_free {W : World} {g : Nat} (h : W.heap[g]? = some zeroRow) : ∀ i, W.frozen? ⟨g, i, none⟩ = false := fun i => by simp [World.frozen?, h, zeroRow]
theorem cell_far {W : World} {p : Addr} {v : Value} (h : W.cell? p = some v) (q : Addr) (u : Value) (hne : p.block ≠ q.block) : (W.setCell q u).cell? p = some v := by
  rw [World.cell?] at h ⊢
  rw [Below.heap_setCell W q u p.block hne]; exact h
theorem row_put5 {W : World} {g : Nat} (h : W.heap[g]? = some zeroRow) (v0 v1 v2 v3 v4 : Value) : (((((W.setCell ⟨g, 0, none⟩ v0).setCell ⟨g, 1, none⟩ v1).setCell ⟨g, 2, none⟩ v2).setCell ⟨g, 3, none⟩ v3).setCell ⟨g, 4, none⟩ v4).heap[g]? = some (.cells #[v0, v1, v2, v3, v4] 27 (0, 0)) := by
  refine blk_put (cs := #[v0, v1, v2, v3, .int .i64 0]) ?_ 4 _ rfl
  refine blk_put (cs := #[v0, v1, v2, .slice none 0 0, .int .i64 0]) ?_ 3 _ rfl
  refine blk_put (cs := #[v0, v1, .slice none 0 0, .slice none 0 0, .int .i64 0]) ?_ 2 _ rfl
  refine blk_put (cs := #[v0, .slice none 0 0, .slice none 0 0, .slice none 0 0, .int .i64 0]) ?_ 1 _ rfl
  refine blk_put (cs := #[.string ⟨#[]⟩, .slice none 0 0, .slice none 0 0, .slice none 0 0, .int .i64 0]) ?_ 0 _ rfl
  exact h
theorem cell_put5 {W : World} {g : Nat} {p : Addr} {v : Value} (hne : p.block ≠ g) (h : W.cell? p = some v) (v0 v1 v2 v3 v4 : Value) : (((((W.setCell ⟨g, 0, none⟩ v0).setCell ⟨g, 1, none⟩ v1).setCell ⟨g, 2, none⟩ v2).setCell ⟨g, 3, none⟩ v3).setCell ⟨g, 4, none⟩ v4).cell? p = some v :=
  cell_far (cell_far (cell_far (cell_far (cell_far h _ _ hne) _ _ hne) _ _ hne) _ _ hne) _ _ hne
theorem six_far {W : World} {g b c : Nat} {x0 x1 x2 x3 x4 x5 : Value} (hb : b ≠ g) (hc : c ≠ g) (h : W.cell? ⟨b, 0, none⟩ = some x0 ∧ W.cell? ⟨b, 1, none⟩ = some x1 ∧ W.cell? ⟨b, 2, none⟩ = some x2 ∧ W.cell? ⟨b, 3, none⟩ = some x3 ∧ W.cell? ⟨b, 4, none⟩ = some x4 ∧ W.cell? ⟨c, 0, none⟩ = some x5) (v0 v1 v2 v3 v4 : Value) :
    (((((W.setCell ⟨g, 0, none⟩ v0).setCell ⟨g, 1, none⟩ v1).setCell ⟨g, 2, none⟩ v2).setCell ⟨g, 3, none⟩ v3).setCell ⟨g, 4, none⟩ v4).cell? ⟨b, 0, none⟩ = some x0 ∧ (((((W.setCell ⟨g, 0, none⟩ v0).setCell ⟨g, 1, none⟩ v1).setCell ⟨g, 2, none⟩ v2).setCell ⟨g, 3, none⟩ v3).setCell ⟨g, 4, none⟩ v4).cell? ⟨b, 1, none⟩ = some x1 ∧ (((((W.setCell ⟨g, 0, none⟩ v0).setCell ⟨g, 1, none⟩ v1).setCell ⟨g, 2, none⟩ v2).setCell ⟨g, 3, none⟩ v3).setCell ⟨g, 4, none⟩ v4).cell? ⟨b, 2, none⟩ = some x2 ∧ (((((W.setCell ⟨g, 0, none⟩ v0).setCell ⟨g, 1, none⟩ v1).setCell ⟨g, 2, none⟩ v2).setCell ⟨g, 3, none⟩ v3).setCell ⟨g, 4, none⟩ v4).cell? ⟨b, 3, none⟩ = some x3 ∧ (((((W.setCell ⟨g, 0, none⟩ v0).setCell ⟨g, 1, none⟩ v1).setCell ⟨g, 2, none⟩ v2).setCell ⟨g, 3, none⟩ v3).setCell ⟨g, 4, none⟩ v4).cell? ⟨b, 4, none⟩ = some x4 ∧ (((((W.setCell ⟨g, 0, none⟩ v0).setCell ⟨g, 1, none⟩ v1).setCell ⟨g, 2, none⟩ v2).setCell ⟨g, 3, none⟩ v3).setCell ⟨g, 4, none⟩ v4).cell? ⟨c, 0, none⟩ = some x5 :=
  ⟨cell_put5 hb h.1 _ _ _ _ _, cell_put5 hb h.2.1 _ _ _ _ _, cell_put5 hb h.2.2.1 _ _ _ _ _, cell_put5 hb h.2.2.2.1 _ _ _ _ _, cell_put5 hb h.2.2.2.2.1 _ _ _ _ _, cell_put5 hc h.2.2.2.2.2 _ _ _ _ _⟩
theorem row_set4 {W : World} {g : Nat} {key : ByteArray} {v1 v2 v3 : Value} {who : Int} (h : W.heap[g]? = some (rowObj key v1 v2 v3 who)) (n : Int) : (W.setCell ⟨g, 4, none⟩ (.int .i64 n)).heap[g]? = some (rowObj key v1 v2 v3 n) :=
  blk_put (cs := #[.string key, v1, v2, v3, .int .i64 who]) h 4 _ rfl
theorem row_set23 {W : World} {g : Nat} {key : ByteArray} {v1 v2 v3 : Value} {who : Int} (h : W.heap[g]? = some (rowObj key v1 v2 v3 who)) (u1 u2 : Value) : ((W.setCell ⟨g, 2, none⟩ u1).setCell ⟨g, 3, none⟩ u2).heap[g]? = some (rowObj key v1 u1 u2 who) := by
  refine blk_put (cs := #[.string key, v1, u1, v3, .int .i64 who]) ?_ 3 _ rfl
  exact blk_put (cs := #[.string key, v1, v2, v3, .int .i64 who]) h 2 _ rfl
theorem below_put5 {w W : World} {n g : Nat} (h : Below n w W) (hg : n ≤ g) (v0 v1 v2 v3 v4 : Value) : Below n w (((((W.setCell ⟨g, 0, none⟩ v0).setCell ⟨g, 1, none⟩ v1).setCell ⟨g, 2, none⟩ v2).setCell ⟨g, 3, none⟩ v3).setCell ⟨g, 4, none⟩ v4) :=
  ((((h.setCell hg v0).setCell hg v1).setCell hg v2).setCell hg v3).setCell hg v4
/-- All that is known ahead of the end: the variables, the row, its three lists. -/
structure Full (s : ByteArray) (w : World) (gR : Nat) (key : ByteArray) (cl : List ByteArray) (S I : List Int) (v vS vI : Value) (W : World) (ok : Bool) (a : Nat) (who : Int) : Prop where
  E : Env s w.heap.size w W ok a
  R : W.heap[gR]? = some (rowObj key v vS vI who)
  L : Kd.R Kd.string 9 W w.heap.size (fun k => k ≠ gR ∧ w.heap.size + 1 + 1 + 1 + 1 < k) v cl
  S : Kd.R (Kd.int .i64) 3 W w.heap.size (fun k => some k ≠ vI.ownBlock ∧ k ≠ gR ∧ w.heap.size + 1 + 1 + 1 + 1 < k) vS S
  I : Kd.R (Kd.int .i64) 3 W w.heap.size (fun k => some k ≠ vS.ownBlock ∧ k ≠ gR ∧ w.heap.size + 1 + 1 + 1 + 1 < k) vI I
  G : w.heap.size + 1 + 1 + 1 + 1 < gR
section
variable {s : ByteArray} {w : World} {gR : Nat} {key : ByteArray} {cl : List ByteArray} {S I : List Int} {v vS vI : Value} {W W' : World} {ok ok' : Bool} {a a' : Nat} {who : Int}
theorem Full.keep (h : Full s w gR key cl S I v vS vI W ok a who) (hO : Var W' (w.heap.size + 1 + 1 + 1) 4 (.bool ok')) (hA : Var W' (w.heap.size + 1 + 1) 3 (.int .i64 (a' : Int))) (hK : Keep2 (w.heap.size + 1 + 1 + 1) (w.heap.size + 1 + 1) W W') : Full s w gR key cl S I v vS vI W' ok' a' who where
  E := h.E.step hO hA hK
  R := (hK.block _ (by have := h.G; omega) (by have := h.G; omega)).trans h.R
  L := Kd.R_step h.L (fun k hk _ => hK.block k (by omega) (by omega))
  S := Kd.R_step h.S (fun k hk _ => hK.block k (by omega) (by omega))
  I := Kd.R_step h.I (fun k hk _ => hK.block k (by omega) (by omega))
  G := h.G
theorem Full.setRow (h : Full s w gR key cl S I v vS vI W ok a who) (n : Int) : Full s w gR key cl S I v vS vI (W.setCell ⟨gR, 4, none⟩ (.int .i64 n)) ok a n where
  E := h.E.set _ _ h.G
  R := row_set4 h.R n
  L := Kd.R_far (p := ⟨gR, 4, none⟩) h.L (fun k hk => hk.1) _
  S := Kd.R_far (p := ⟨gR, 4, none⟩) h.S (fun k hk => hk.2.1) _
  I := Kd.R_far (p := ⟨gR, 4, none⟩) h.I (fun k hk => hk.2.1) _
  G := h.G
theorem Full.below (h : Full s w gR key cl S I v vS vI W ok a who) (hb : Below W.heap.size W W') : Full s w gR key cl S I v vS vI W' ok a who where
  E := h.E.below hb
  R := (hb.block _ (lt_of_block h.R)).trans h.R
  L := Kd.R_below h.L hb
  S := Kd.R_below h.S hb
  I := Kd.R_below h.I hb
  G := h.G
/-- Region 12's four stores. -/
theorem Full.made (hG : w.heap.size + 1 + 1 + 1 + 1 < gR) (E : Env s w.heap.size w W ok a) {v2 v3 : Value} (R : W.heap[gR]? = some (rowObj key v v2 v3 who))
    (L : Kd.R Kd.string 9 W w.heap.size (fun k => k ≠ gR ∧ w.heap.size + 1 + 1 + 1 + 1 < k) v cl)
    (hS : Kd.R (Kd.int .i64) 3 W w.heap.size (fun k => some k ≠ vI.ownBlock ∧ k ≠ gR ∧ w.heap.size + 1 + 1 + 1 + 1 < k) vS S)
    (hI : Kd.R (Kd.int .i64) 3 W w.heap.size (fun k => some k ≠ vS.ownBlock ∧ k ≠ gR ∧ w.heap.size + 1 + 1 + 1 + 1 < k) vI I) (a' : Nat) (ok' : Bool) :
    Full s w gR key cl S I v vS vI ((((W.setCell ⟨gR, 2, none⟩ vS).setCell ⟨gR, 3, none⟩ vI).setCell ⟨w.heap.size + 1 + 1, 0, none⟩ (.int .i64 (a' : Int))).setCell ⟨w.heap.size + 1 + 1 + 1, 0, none⟩ (.bool ok')) ok' a' who := by
  have h1 : Full s w gR key cl S I v vS vI ((W.setCell ⟨gR, 2, none⟩ vS).setCell ⟨gR, 3, none⟩ vI) ok a who :=
    ⟨(E.set _ _ hG).set _ _ hG, row_set23 R vS vI,
      Kd.R_far (p := ⟨gR, 3, none⟩) (Kd.R_far (p := ⟨gR, 2, none⟩) L (fun k hk => hk.1) _) (fun k hk => hk.1) _,
      Kd.R_far (p := ⟨gR, 3, none⟩) (Kd.R_far (p := ⟨gR, 2, none⟩) hS (fun k hk => hk.2.1) _) (fun k hk => hk.2.1) _,
      Kd.R_far (p := ⟨gR, 3, none⟩) (Kd.R_far (p := ⟨gR, 2, none⟩) hI (fun k hk => hk.2.1) _) (fun k hk => hk.2.1) _, hG⟩
  refine h1.keep (a' := a') (ok' := ok') ?_ ?_ ?_
  · exact (h1.E.O.other (by omega) _ _).set _
  · exact (h1.E.A.set _).other (by omega) _ _
  · exact Keep2.set (a := w.heap.size + 1 + 1 + 1) (b := w.heap.size + 1 + 1) (Keep2.set (Keep2.refl _ _ _) ⟨w.heap.size + 1 + 1, 0, none⟩ _ (.inr rfl)) ⟨w.heap.size + 1 + 1 + 1, 0, none⟩ _ (.inl rfl)
/-- Behind label.Of's call. -/
theorem Env.label (hG : w.heap.size + 1 + 1 + 1 + 1 < gR) (E : Env s w.heap.size w W ok a) {v2 v3 : Value} (R : W.heap[gR]? = some (rowObj key v v2 v3 who))
    (L : Kd.R Kd.string 9 W w.heap.size (fun k => k ≠ gR ∧ w.heap.size + 1 + 1 + 1 + 1 < k) v cl)
    (hS : Kd.R (Kd.int .i64) 3 W' W.heap.size (fun k => some k ≠ vI.ownBlock) vS S) (hI : Kd.R (Kd.int .i64) 3 W' W.heap.size (fun k => some k ≠ vS.ownBlock) vI I) (hb : Below W.heap.size W W') :
    Env s w.heap.size w W' ok a ∧ W'.heap[gR]? = some (rowObj key v v2 v3 who) ∧ Kd.R Kd.string 9 W' w.heap.size (fun k => k ≠ gR ∧ w.heap.size + 1 + 1 + 1 + 1 < k) v cl ∧
    Kd.R (Kd.int .i64) 3 W' w.heap.size (fun k => some k ≠ vI.ownBlock ∧ k ≠ gR ∧ w.heap.size + 1 + 1 + 1 + 1 < k) vS S ∧ Kd.R (Kd.int .i64) 3 W' w.heap.size (fun k => some k ≠ vS.ownBlock ∧ k ≠ gR ∧ w.heap.size + 1 + 1 + 1 + 1 < k) vI I ∧ gR < W'.heap.size := by
  have hlt := lt_of_block R
  have hgw := E.L
  have hsz := hb.size
  refine ⟨E.below hb, (hb.block gR hlt).trans R, Kd.R_below L hb, ?_, ?_, by omega⟩
  · exact Kd.R_mono (Kd.R_lower (Kd.R_bound hS) (by omega)) (fun k hk => ⟨hk.1, by have := hk.2.1; omega, by have := hk.2.1; omega⟩)
  · exact Kd.R_mono (Kd.R_lower (Kd.R_bound hI) (by omega)) (fun k hk => ⟨hk.1, by have := hk.2.1; omega, by have := hk.2.1; omega⟩)
/-- The result's place is written with the row. -/
theorem Full.done (h : Full s w gR key cl S I v vS vI W ok a who) (u0 u1 u2 u3 u4 : Value) : 
    Kd.R Kd.string 9 (((((W.setCell ⟨w.heap.size + 1, 0, none⟩ u0).setCell ⟨w.heap.size + 1, 1, none⟩ u1).setCell ⟨w.heap.size + 1, 2, none⟩ u2).setCell ⟨w.heap.size + 1, 3, none⟩ u3).setCell ⟨w.heap.size + 1, 4, none⟩ u4) w.heap.size (fun _ => True) v cl ∧
    Kd.R (Kd.int .i64) 3 (((((W.setCell ⟨w.heap.size + 1, 0, none⟩ u0).setCell ⟨w.heap.size + 1, 1, none⟩ u1).setCell ⟨w.heap.size + 1, 2, none⟩ u2).setCell ⟨w.heap.size + 1, 3, none⟩ u3).setCell ⟨w.heap.size + 1, 4, none⟩ u4) w.heap.size (fun k => some k ≠ vI.ownBlock) vS S ∧
    Kd.R (Kd.int .i64) 3 (((((W.setCell ⟨w.heap.size + 1, 0, none⟩ u0).setCell ⟨w.heap.size + 1, 1, none⟩ u1).setCell ⟨w.heap.size + 1, 2, none⟩ u2).setCell ⟨w.heap.size + 1, 3, none⟩ u3).setCell ⟨w.heap.size + 1, 4, none⟩ u4) w.heap.size (fun k => some k ≠ vS.ownBlock) vI I := by
  have hf : ∀ k, w.heap.size + 1 + 1 + 1 + 1 < k → (((((W.setCell ⟨w.heap.size + 1, 0, none⟩ u0).setCell ⟨w.heap.size + 1, 1, none⟩ u1).setCell ⟨w.heap.size + 1, 2, none⟩ u2).setCell ⟨w.heap.size + 1, 3, none⟩ u3).setCell ⟨w.heap.size + 1, 4, none⟩ u4).heap[k]? = W.heap[k]? := fun k hk => by
    have hne : k ≠ w.heap.size + 1 := by omega
    rw [Below.heap_setCell _ _ _ k hne, Below.heap_setCell _ _ _ k hne, Below.heap_setCell _ _ _ k hne, Below.heap_setCell _ _ _ k hne, Below.heap_setCell _ _ _ k hne]
  exact ⟨Kd.R_mono (Kd.R_step h.L (fun k hk _ => hf k hk.2)) (fun _ _ => trivial), Kd.R_mono (Kd.R_step h.S (fun k hk _ => hf k hk.2.2)) (fun _ hk => hk.1), Kd.R_mono (Kd.R_step h.I (fun k hk _ => hf k hk.2.2)) (fun _ hk => hk.1)⟩
end
set_option maxHeartbeats 16000000 in
set_option maxRecDepth 100000 in
theorem of_calls (k : Nat) (s : ByteArray) (hs : s.size ≤ 9223372036854775807) (r1 : ByteArray) (r2 : List ByteArray) (r3 r4 : List Int) (r5 r6 r7 : Int) (w : World) (h : ofF k s = some (r1, r2, r3, r4, r5, r6, r7)) :
    Calls Try.prog 14 #[.string s] w fun e w' => ∃ v1_ v2_ v3_ : Value, e = .returned (.tuple #[.agg #[.string r1, v1_, v2_, v3_, .int .i64 r5], .int .i64 r6, .int .i64 r7]) ∧ Kd.R Kd.string 9 w' w.heap.size (fun _ => True) v1_ r2 ∧ Kd.R (Kd.int .i64) 3 w' w.heap.size (fun k_ => some k_ ≠ (v3_ : Value).ownBlock) v2_ r3 ∧ Kd.R (Kd.int .i64) 3 w' w.heap.size (fun k_ => some k_ ≠ (v2_ : Value).ownBlock) v3_ r4 ∧ Below w.heap.size w w' := by
  have hmf : ∀ (fn : Fn) (first cap : Array Value) (w : World), (Instr.makeFunc fn first cap).run Try.prog w = .ok (.func fn first cap) w := fun _ _ _ _ => rfl
  have hu27 := Try.underlying27
  have hu25 := Try.underlying25
  have HE := Aside0.mk (Env.start s w)
  have H := h
  clear h
  unfold ofF at H
  obtain ⟨key, ok1, a1, hr1⟩ : ∃ key ok1 a1, rdF true s 0 = (key, ok1, a1) := ⟨_, _, _, rfl⟩
  have hc1 := fun W h1 h2 h3 h4 => read_calls (w.heap.size + 1 + 1 + 1 + 1) (w.heap.size + 1 + 1 + 1) (w.heap.size + 1 + 1) w.heap.size (by omega) (by omega) (by omega) (by omega) (by omega) s (by omega) true 0 (by omega) W h1 h2 h3 h4
  rw [hr1] at hc1
  have HC1 := Aside0.mk hc1
  clear hc1
  rw [hr1] at H
  obtain ⟨n, ok2, a2, hr2⟩ : ∃ n ok2 a2, cnt ok1 s a1 = (n, ok2, a2) := ⟨_, _, _, rfl⟩
  have ha1 : a1 ≤ s.size := by have := rdF_range true s 0 (by omega); rw [hr1] at this; exact this
  have hc2 := fun W h2 h3 h4 => count_calls (w.heap.size + 1 + 1 + 1) (w.heap.size + 1 + 1) w.heap.size (by omega) (by omega) (by omega) s (by omega) ok1 a1 ha1 W h2 h3 h4
  rw [hr2] at hc2
  have HC2 := Aside0.mk hc2
  clear hc2
  simp only [hr2] at H
  have HH := Aside0.mk H
  clear H
  go_enter Try.func14, Try.ntmps14
  go_wp2_with (first | (go_at_call 32; refine (HC1.out _ HE.out.C HE.out.O HE.out.A HE.out.S).mono ?_; rintro e w1 ⟨rfl, hO, hA, hK⟩; have HE1 := Aside0.mk ((HE.out.step hO hA hK).alloc (.cells #[.string key, .slice none 0 0, .slice none 0 0, .slice none 0 0, .int .i64 0] 27)); clear HE HC1; have hR1 : (w1.alloc (.cells #[.string key, .slice none 0 0, .slice none 0 0, .slice none 0 0, .int .i64 0] 27)).heap[w1.heap.size]? = some (.cells #[.string key, .slice none 0 0, .slice none 0 0, .slice none 0 0, .int .i64 0] 27 (0, 0)) := heap_new _ _ rfl; have HR1 := Aside0.mk hR1; clear hR1; have hGL := Aside0.mk (show w.heap.size + 1 + 1 + 1 + 1 < w1.heap.size from by have h_ := hK.size; simp at h_; omega); clear hO hA hK; obtain ⟨c0, c1, c2, c3, c4, c5⟩ := HE1.out.cells) | (go_at_call 31; refine (HC2.out _ HE1.out.O HE1.out.A HE1.out.S).mono ?_; clear c0 c1 c2 c3 c4 c5; rintro e w2 ⟨rfl, hO, hA, hK⟩; have HE2 := Aside0.mk (HE1.out.step hO hA hK); have hRw := Aside0.mk ((hK.block w1.heap.size (by have := hGL.out; omega) (by have := hGL.out; omega)).trans HR1.out); clear hO hA hK HE1 HC2))
  obtain ⟨CL, ok3, a3, hr3⟩ : ∃ CL ok3 a3, cellsGo s 10 ok2 a2 n [] = (CL, ok3, a3) := ⟨_, _, _, rfl⟩
  have HR3 := Aside0.mk hr3
  have H := HH.out
  simp only [hr3] at H
  have H3 := Aside0.mk H
  clear H HH
  have hn2 : ok2 = true → 0 ≤ n ∧ n ≤ 2147483647 := by
    intro h
    have h1 := cnt_range ok1 s a1 ha1
    rw [hr2] at h1
    refine ⟨h1.1, ?_⟩
    have h2 : cnt ok1 s a1 = (n, ok2, a2) := hr2
    unfold cnt at h2
    simp only [Prod.mk.injEq] at h2
    have h3 := h2.2.1
    rw [h, Bool.and_eq_true, decide_eq_true_eq] at h3
    rw [← h2.1]; exact h3.2
  have ha2 : a2 ≤ s.size := by have h1 := cnt_range ok1 s a1 ha1; rw [hr2] at h1; exact h1.2
  have HN2 := Aside0.mk hn2
  have HA2 := Aside0.mk ha2
  clear hr3 hn2 ha2 hr1 hr2 ha1
  obtain ⟨gR, hgR⟩ : ∃ gR, w1.heap.size = gR := ⟨_, rfl⟩
  have HRw := Aside0.mk (show w2.heap[gR]? = some (rowObj key (.slice none 0 0) (.slice none 0 0) (.slice none 0 0) 0) from by rw [← hgR]; exact hRw.out)
  have HGL := Aside0.mk (show w.heap.size + 1 + 1 + 1 + 1 < gR from by rw [← hgR]; exact hGL.out)
  rw [hgR]
  clear hRw hGL hgR HR1
  go_loopg [10] 11 (fun kq v10 W => ∃ (cl : List ByteArray) (m : Int) (ok : Bool) (a : Nat) (v : Value), v10 = .int .i64 m ∧ Aside0 (kq + cl.length = 11) ∧ Aside0 (cl.length ≤ 9) ∧ Aside0 (ok = true → cl.length ≤ 8 ∧ 0 ≤ m ∧ m ≤ 2147483647) ∧ Aside0 (a ≤ s.size) ∧ Aside0 (cellsGo s (10 - cl.length) ok a m cl = (CL, ok3, a3)) ∧ Aside0 (Env s w.heap.size w W ok a) ∧ Aside0 (W.heap[gR]? = some (rowObj key v (.slice none 0 0) (.slice none 0 0) 0)) ∧ Aside0 (Kd.R Kd.string 9 W w.heap.size (fun k => k ≠ gR ∧ w.heap.size + 1 + 1 + 1 + 1 < k) v cl))
  case atStart => exact ⟨[], n, ok2, a2, .slice none 0 0, rfl, ⟨rfl⟩, ⟨by simp⟩, ⟨fun h => ⟨by simp, HN2.out h⟩⟩, HA2, HR3, HE2, HRw, ⟨Kd.R_nil _ _ _ _ _⟩⟩
  case round =>
    clear HR3 HN2 HA2 HRw HE2
    obtain ⟨cl, m, ok, a, v, rfl, HK, HC9, HOk, HAs, HR3, HE, HRw, HO⟩ := hrel
    obtain ⟨k1, rfl⟩ : ∃ k1, gk = k1 + 1 := ⟨gk - 1, by have := HK.out; have := HC9.out; omega⟩
    obtain ⟨c0, c1, c2, c3, c4, c5⟩ := HE.out.cells
    by_cases hgo : ok = true ∧ 0 < m
    · obtain ⟨rfl, hm⟩ := hgo
      have hm1 : decide (0 < m) = true := decide_eq_true hm
      have hm2 : m ≤ 2147483647 := (HOk.out rfl).2.2
      obtain ⟨ct, ok', a', hrd⟩ : ∃ ct ok' a', rdF true s a = (ct, ok', a') := ⟨_, _, _, rfl⟩
      have hcr := fun W h1 h2 h3 h4 => read_calls (w.heap.size + 1 + 1 + 1 + 1) (w.heap.size + 1 + 1 + 1) (w.heap.size + 1 + 1) w.heap.size (by omega) (by omega) (by omega) (by omega) (by omega) s (by omega) true a HAs.out W h1 h2 h3 h4
      rw [hrd] at hcr
      have HCr := Aside0.mk hcr
      have HRd := Aside0.mk hrd
      clear hcr hrd
      have hcell : wr.drew.cell? ⟨gR, 1, none⟩ = some v := row_cell1 HRw.out
      go_wp2_with fail
      have HEd := Aside0.mk HE.out.drew
      have HRd8 := Aside0.mk (show wr.drew.heap[gR]? = some (rowObj key v (.slice none 0 0) (.slice none 0 0) 0) from HRw.out)
      have HOd := Aside0.mk (Kd.R_drew HO.out)
      clear HE HRw HO c0 c1 c2 c3 c4 c5
      refine start_ (n := 8) (S := fun w' => w'.cell? ⟨gR, 1, none⟩ = some v) (ds := [7]) #[false, false, false, false, false, false, false, false] (by kernel_rfl) rfl rfl (hcell) (fun hHeld => ?_)
      refine pure_ (i := 0) (N := some 28) (v := ?_) (a' := ?_) #[true, false, false, false, false, false, false, false] rfl rfl (by kernel_rfl) (fun _ _ _ h => h) (Or.inl ⟨by rfl, ?_⟩) ?_ ?_
      rotate_left
      · intro w'
        go_simp
        with_reducible rfl
      rotate_left
      · simp only [Act.put, List.setIfInBounds_toArray, List.set_cons_zero, List.set_cons_succ, i64_w, i32_w]
        rfl
      refine pure_ (i := 2) (N := some 30) (v := ?_) (a' := ?_) #[true, false, true, false, false, false, false, false] rfl rfl (by kernel_rfl) (fun _ _ _ h => h) (Or.inl ⟨by rfl, ?_⟩) ?_ ?_
      rotate_left
      · intro w'
        go_simp
        with_reducible rfl
      rotate_left
      · simp only [Act.put, List.setIfInBounds_toArray, List.set_cons_zero, List.set_cons_succ, i64_w, i32_w]
        rfl
      refine take_ (i := 1) (N := some 29) (v := ?_) (a' := ?_) #[true, true, true, false, false, false, false, false] rfl rfl (by kernel_rfl) (fun _ _ _ h => h) (Or.inl ⟨by rfl, ?_⟩) hHeld ?_ ?_
      rotate_left
      · intro w' s0
        go_simp
        with_reducible rfl
      rotate_left
      · simp only [Act.put, List.setIfInBounds_toArray, List.set_cons_zero, List.set_cons_succ, i64_w, i32_w]
        rfl
      refine one_ (i := 3) (N := some 31) #[true, true, true, true, false, false, false, false] rfl rfl (by kernel_rfl) (by decide) (fun K hK => ?_)
      refine call_ 32 #[.pointer (some ⟨w.heap.size + 1 + 1 + 1 + 1, 0, none⟩), .pointer (some ⟨w.heap.size + 1 + 1 + 1, 0, none⟩), .pointer (some ⟨w.heap.size, 0, none⟩), .pointer (some ⟨w.heap.size + 1 + 1, 0, none⟩)] (by rfl) rfl ?_ ?_
      · go_simp
      refine (HCr.out _ HEd.out.C HEd.out.O HEd.out.A HEd.out.S).mono ?_
      rintro e w3 ⟨rfl, hO, hA, hK3⟩
      refine ⟨_, rfl, ?_⟩
      have HE3 := Aside0.mk (HEd.out.step hO hA hK3)
      have hgl := HGL.out
      have HR3w := Aside0.mk ((hK3.block gR (by omega) (by omega)).trans HRd8.out)
      have HO3 := Aside0.mk (Kd.R_step HOd.out (w1 := w3) (fun k hk _ => hK3.block k (by omega) (by omega)))
      clear hO hA hK3 HEd HRd8 HOd HCr
      refine hK.out _ _ (row_cell1 HR3w.out) (fun hHeld => ?_)
      clear hK K
      refine norm_ (a' := ?_) ?_ ?_
      rotate_left
      · show Act.put _ (some 31) _ = _
        simp only [Act.put, List.setIfInBounds_toArray, List.set_cons_zero, List.set_cons_succ, i64_w, i32_w]
        rfl
      refine one_ (i := 4) (N := some 32) #[true, true, true, true, true, false, false, false] rfl rfl (by kernel_rfl) (by decide) (fun K hK => ?_)
      refine value_ (w1 := ?_) (v := ?_) (by rfl) rfl ?_ ?_
      rotate_left 2
      · go_simp
        constructor
        · rfl
        · rfl
      refine hK.out _ _ (row_cell1 (by rw [heap_old _ _ (by have := lt_of_block HR3w.out; omega)]; exact HR3w.out)) (fun hHeld => ?_)
      clear hK K
      refine norm_ (a' := ?_) ?_ ?_
      rotate_left
      · show Act.put _ (some 32) _ = _
        simp only [Act.put, List.setIfInBounds_toArray, List.set_cons_zero, List.set_cons_succ, i64_w, i32_w]
        rfl
      refine one_ (i := 5) (N := some 33) #[true, true, true, true, true, true, false, false] rfl rfl (by kernel_rfl) (by decide) (fun K hK => ?_)
      refine Kd.R_append_step Kd.string (w0 := w) w.heap.size (by rfl) (.tmp 29) (.tmp 32) 22 9 (.string ⟨#[]⟩) 16 rfl Try.underlying22 info9 (by rfl) (by decide) (by decide) v cl ct [.string ct] (fun k => k ≠ gR ∧ w.heap.size + 1 + 1 + 1 + 1 < k) (fun _ => False) rfl rfl rfl (fun _ hk => hk.elim) ?aF HO3.out HE3.out.B (below_size HE3.out.B) (by have := HC9.out; omega) ?_
      (case aF => exact fun k hk => ⟨by have := lt_of_block HR3w.out; omega, by have := HE3.out.L; omega⟩)
      intro v1 w4 ho hb hg hat
      obtain ⟨A1, k1_, rfl, hk1_, _⟩ := Kd.R_reads ho
      simp only [List.length_append, List.length_cons, List.length_nil, Nat.zero_add] at ho hat ⊢
      have hvb := HO3.out.1
      have HE4 := Aside0.mk ((HE3.out).grown hg (fun k hk => (hvb k hk).2))
      have HR4 := Aside0.mk ((hg.block gR (lt_of_block HR3w.out) (fun e => (hvb gR e.symm).1 rfl)).trans HR3w.out)
      have HO4 := Aside0.mk ho
      have c41 := row_cell1 HR4.out
      have f41 := row_free HR4.out 1
      clear hb hg hat ho HE3 HR3w HO3 hvb
      refine hK.out _ _ (c41) (fun hHeld => ?_)
      clear hK K
      refine norm_ (a' := ?_) ?_ ?_
      rotate_left
      · show Act.put _ (some 33) _ = _
        simp only [Act.put, List.setIfInBounds_toArray, List.set_cons_zero, List.set_cons_succ, i64_w, i32_w]
        rfl
      refine pure_ (i := 6) (N := some 34) (v := ?_) (a' := ?_) #[true, true, true, true, true, true, true, false] rfl rfl (by kernel_rfl) (fun _ _ _ h => h) (Or.inl ⟨by rfl, ?_⟩) ?_ ?_
      rotate_left
      · intro w'
        go_simp
        with_reducible rfl
      rotate_left
      · simp only [Act.put, List.setIfInBounds_toArray, List.set_cons_zero, List.set_cons_succ, i64_w, i32_w]
        rfl
      refine last_ (i := 7) (N := none) #[true, true, true, true, true, true, true, true] rfl rfl (by kernel_rfl) (by decide) (fun K hK => ?_)
      refine skip_ (w1 := ?_) (by rfl) rfl ?_ ?_
      rotate_left
      · go_simp
        rfl
      refine hK.out _ _ ?_
      clear hK K
      refine done_ (by kernel_rfl) ?_

      have HR5 := Aside0.mk (row_set1 HR4.out (.slice A1 (cl.length + 1) k1_))
      have HO5 := Aside0.mk (Kd.R_far (p := ⟨gR, 1, none⟩) HO4.out (fun k hk => hk.1) (.slice A1 (cl.length + 1) k1_))
      have HE5 := Aside0.mk (HE4.out.set ⟨gR, 1, none⟩ (.slice A1 (cl.length + 1) k1_) HGL.out)
      clear HR4 HO4 HE4 c41 f41 hcell hHeld
      generalize w4.setCell ⟨gR, 1, none⟩ (.slice A1 (cl.length + 1) k1_) = w5 at HR5 HO5 HE5 ⊢
      obtain ⟨c0, c1, c2, c3, c4, c5⟩ := HE5.out.cells
      have c6 := row_cell1 HR5.out
      have hc8 := (HOk.out trivial).1
      have HAs' := Aside0.mk (show a' ≤ s.size from by have h1 := rdF_range true s a HAs.out; rw [HRd.out] at h1; exact h1)
      have HR3' := Aside0.mk (show cellsGo s (10 - (cl ++ [ct]).length) (ok' && decide (cl.length + 1 ≤ 8)) a' (m - 1) (cl ++ [ct]) = (CL, ok3, a3) from by
        have h1 := HR3.out
        rw [show 10 - cl.length = (10 - (cl ++ [ct]).length) + 1 by simp; omega, cellsGo, if_pos ⟨rfl, hm⟩, HRd.out] at h1
        exact h1)
      have HK' := Aside0.mk (show k1 + (cl ++ [ct]).length = 11 from by have := HK.out; simp; omega)
      clear HR3 HRd HAs HK
      cases ok' with
      | false =>
        go_wp2
        go_roundg k1
        case measure => omega
        case rel => exact ⟨cl ++ [ct], m - 1, false, a', .slice A1 (cl.length + 1) k1_, rfl, HK', ⟨by simp; omega⟩, ⟨fun h => by cases h⟩, HAs', HR3', ⟨HE5.out.setOk false⟩, ⟨row_far HR5.out _ _ (by have := HGL.out; show gR ≠ w.heap.size + 1 + 1 + 1; omega)⟩, ⟨Kd.R_far (p := ⟨w.heap.size + 1 + 1 + 1, 0, none⟩) HO5.out (fun k hk => by have := hk.2; show k ≠ w.heap.size + 1 + 1 + 1; omega) _⟩⟩
      | true =>
        have d9 : decide ((cl.length : Int) + 1 ≤ 8) = decide (cl.length + 1 ≤ 8) := by by_cases h : cl.length + 1 ≤ 8 <;> simp [h] <;> omega
        go_wp2
        go_roundg k1
        case measure => omega
        case rel => exact ⟨cl ++ [ct], m - 1, decide (cl.length ≤ 7), a', .slice A1 (cl.length + 1) k1_, rfl, HK', ⟨by simp; omega⟩, ⟨fun h => by have h := of_decide_eq_true h; simp; omega⟩, HAs', ⟨by have h := HR3'.out; rw [Bool.true_and, show decide (cl.length + 1 ≤ 8) = decide (cl.length ≤ 7) from decide_eq_decide.2 (by omega)] at h; exact h⟩, ⟨HE5.out.setOk _⟩, ⟨row_far HR5.out _ _ (by have := HGL.out; show gR ≠ w.heap.size + 1 + 1 + 1; omega)⟩, ⟨Kd.R_far (p := ⟨w.heap.size + 1 + 1 + 1, 0, none⟩) HO5.out (fun k hk => by have := hk.2; show k ≠ w.heap.size + 1 + 1 + 1; omega) _⟩⟩
    · have hx : (cl, ok, a) = (CL, ok3, a3) := by
        have h1 := HR3.out
        rw [show 10 - cl.length = (9 - cl.length) + 1 from by have := HC9.out; omega, cellsGo, if_neg hgo] at h1
        exact h1
      simp only [Prod.mk.injEq] at hx
      obtain ⟨rfl, rfl, rfl⟩ := hx
      cases ok with
      | false =>
        have H := H3.out
        rw [if_neg (by decide)] at H
        simp only [Option.some.injEq, Prod.mk.injEq] at H
        obtain ⟨rfl, rfl, rfl, rfl, rfl, rfl, rfl⟩ := H
        have HC := Aside0.mk (count_calls (w.heap.size + 1 + 1 + 1) (w.heap.size + 1 + 1) w.heap.size (by omega) (by omega) (by omega) s (by omega) false a HAs.out wr HE.out.O HE.out.A HE.out.S)
        have hgl := HGL.out
        clear H3 HR3 HOk HK HC9 hgo
        go_wp2_with (go_at_call 31; refine HC.out.mono ?_; rintro e w5 ⟨rfl, hO, hA, hK⟩; have HE2 := Aside0.mk (HE.out.step hO hA hK); have HRw2 := Aside0.mk ((hK.block gR (by omega) (by omega)).trans HRw.out); skip; clear hO hA hK HC HE c0 c1 c2 c3 c4 c5; obtain ⟨c0, c1, c2, c3, c4, c5⟩ := HE2.out.cells; have f4 := row_free HRw2.out 4; obtain ⟨r0, r1, r2, r3, r4⟩ := row_cells HRw2.out; obtain ⟨z0, z1, z2, z3, z4⟩ := zero_cells HE2.out.Z; have zf := zero_free HE2.out.Z; have q0 := eq_false (show ¬ gR = w.heap.size by omega); have q1 := eq_false (show ¬ gR = w.heap.size + 1 by omega); have q2 := eq_false (show ¬ gR = w.heap.size + 1 + 1 by omega); have q3 := eq_false (show ¬ gR = w.heap.size + 1 + 1 + 1 by omega); have p0 := eq_false (show ¬ w.heap.size = gR by omega); have p1 := eq_false (show ¬ w.heap.size + 1 = gR by omega); have p2 := eq_false (show ¬ w.heap.size + 1 + 1 = gR by omega); have p3 := eq_false (show ¬ w.heap.size + 1 + 1 + 1 = gR by omega))
        refine bodyPost_ret (results_ctt rfl _ _ (w.heap.size + 1) 27 #[.string ⟨#[]⟩, .slice none 0 0, .slice none 0 0, .slice none 0 0, .int .i64 0] (0, 0) _ rfl (row_put5 (row_far HE2.out.Z _ _ (by show w.heap.size + 1 ≠ gR; omega)) _ _ _ _ _) Try.underlying27 rfl (by kernel_rfl)) rfl ?_
        exact ⟨_, _, _, rfl, Kd.R_nil _ _ _ _ _, Kd.R_nil _ _ _ _ _, Kd.R_nil _ _ _ _ _, below_put5 (HE2.out.B.setCell (show w.heap.size ≤ gR by omega) _) (Nat.le_succ _) _ _ _ _ _⟩
      | true =>
        have H := H3.out
        rw [if_pos rfl] at H
        obtain ⟨⟨S, I, u, e⟩, hL, H⟩ := Option.bind_eq_some_iff.mp H
        by_cases hu : 0 ≤ u ∧ (a : Int) + u ≤ s.size
        · replace H : (if 0 ≤ u ∧ (a : Int) + u ≤ s.size then tailF k s key cl S I (e == 0) (a + u.toNat) else none) = some (r1, r2, r3, r4, r5, r6, r7) := H
          rw [if_pos hu] at H
          obtain ⟨hu0, hu1⟩ := hu
          obtain ⟨u, rfl⟩ := Int.eq_ofNat_of_zero_le hu0
          simp only [Int.toNat_natCast] at H
          have hau : a + u ≤ s.size := by omega
          have HT := Aside0.mk H
          have HL := Aside0.mk hL
          have hgl := HGL.out
          have hm2 : decide (0 < m) = false := decide_eq_false (fun h => hgo ⟨rfl, h⟩)
          have hm2 : decide (0 < m) = false := decide_eq_false (fun h => hgo ⟨rfl, h⟩)
          have hm2 : decide (0 < m) = false := decide_eq_false (fun h => hgo ⟨rfl, h⟩)
          have hm2 : decide (0 < m) = false := decide_eq_false (fun h => hgo ⟨rfl, h⟩)
          have hm2 : decide (0 < m) = false := decide_eq_false (fun h => hgo ⟨rfl, h⟩)
          have hm2 : decide (0 < m) = false := decide_eq_false (fun h => hgo ⟨rfl, h⟩)
          have hm2 : decide (0 < m) = false := decide_eq_false (fun h => hgo ⟨rfl, h⟩)
          have hm2 : decide (0 < m) = false := decide_eq_false (fun h => hgo ⟨rfl, h⟩)
          have hm2 : decide (0 < m) = false := decide_eq_false (fun h => hgo ⟨rfl, h⟩)
          have hm2 : decide (0 < m) = false := decide_eq_false (fun h => hgo ⟨rfl, h⟩)
          have hm2 : decide (0 < m) = false := decide_eq_false (fun h => hgo ⟨rfl, h⟩)
          have hm2 : decide (0 < m) = false := decide_eq_false (fun h => hgo ⟨rfl, h⟩)
          have hm2 : decide (0 < m) = false := decide_eq_false (fun h => hgo ⟨rfl, h⟩)
          have hm2 : decide (0 < m) = false := decide_eq_false (fun h => hgo ⟨rfl, h⟩)
          clear H H3 hL hu0 hu1 HR3 HOk HK HC9 hgo
          have has := HAs.out
          obtain ⟨A2, c2_, rfl, _, _⟩ := Kd.R_reads HO.out
          go_wp2_with (go_at_call 33; refine (label_Of.calls k _ S I u e _ HL.out).mono ?_; rintro e' w5 ⟨v0, v1, rfl, hS, hI, hb⟩; obtain ⟨h1_, h2_, h3_, h4_, h5_, hgw5⟩ := Env.label HGL.out HE.out HRw.out HO.out hS hI hb; have HE5 := Aside0.mk h1_; have HR5 := Aside0.mk h2_; have HO5 := Aside0.mk h3_; have HS5 := Aside0.mk h4_; have HI5 := Aside0.mk h5_; clear h1_ h2_ h3_ h4_ h5_; clear c0 c1 c2 c3 c4 c5; obtain ⟨A0, c0_, rfl, _, _⟩ := Kd.R_reads hS; obtain ⟨A1, c1_, rfl, _, _⟩ := Kd.R_reads hI; clear hS hI hb; obtain ⟨c0, c1, c2, c3, c4, c5⟩ := HE5.out.cells)
          have hl0 : ((w5.alloc (.cells #[.slice A0 S.length c0_, .slice A1 I.length c1_] 25)).drew).cell? ⟨w5.heap.size, 0, none⟩ = some (.slice A0 S.length c0_) := by
            show (w5.alloc _).cell? _ = _
            rw [World.cell?, heap_new _ _ rfl]; rfl
          have hl1 : ((w5.alloc (.cells #[.slice A0 S.length c0_, .slice A1 I.length c1_] 25)).drew).cell? ⟨w5.heap.size, 1, none⟩ = some (.slice A1 I.length c1_) := by
            show (w5.alloc _).cell? _ = _
            rw [World.cell?, heap_new _ _ rfl]; rfl
          have HE6 := Aside0.mk ((HE5.out.alloc (.cells #[.slice A0 S.length c0_, .slice A1 I.length c1_] 25)).drew)
          have HR6 := Aside0.mk (show ((w5.alloc (.cells #[.slice A0 S.length c0_, .slice A1 I.length c1_] 25)).drew).heap[gR]? = _ from (heap_old _ _ (Nat.ne_of_lt hgw5)).trans HR5.out)
          have HO6 := Aside0.mk (Kd.R_drew (Kd.R_alloc HO5.out (.cells #[.slice A0 S.length c0_, .slice A1 I.length c1_] 25)))
          have HS6 := Aside0.mk (Kd.R_drew (Kd.R_alloc HS5.out (.cells #[.slice A0 S.length c0_, .slice A1 I.length c1_] 25)))
          have HI6 := Aside0.mk (Kd.R_drew (Kd.R_alloc HI5.out (.cells #[.slice A0 S.length c0_, .slice A1 I.length c1_] 25)))
          clear HE HRw HO HE5 HR5 HO5 HS5 HI5 c0 c1 c2 c3 c4 c5
          obtain ⟨_, hat, hO6, _, fA, fO⟩ := HE6.out.cells
          obtain ⟨_, _, r2, r3, _⟩ := row_cells HR6.out
          have fR := row_free HR6.out
          have q0 := eq_false (show ¬ gR = w.heap.size by omega)
          have q1 := eq_false (show ¬ gR = w.heap.size + 1 by omega)
          have q2 := eq_false (show ¬ gR = w.heap.size + 1 + 1 by omega)
          have q3 := eq_false (show ¬ gR = w.heap.size + 1 + 1 + 1 by omega)
          have p0 := eq_false (show ¬ w.heap.size = gR by omega)
          have p1 := eq_false (show ¬ w.heap.size + 1 = gR by omega)
          have p2 := eq_false (show ¬ w.heap.size + 1 + 1 = gR by omega)
          have p3 := eq_false (show ¬ w.heap.size + 1 + 1 + 1 = gR by omega)
          have h5 : gR ≠ w5.heap.size := Nat.ne_of_lt hgw5
          clear hgw5
          generalize hgl' : w5.heap.size = gl at hl0 hl1 h5 ⊢
          refine start_ (n := 10) (S := fun w' => w'.cell? ⟨gl, 0, none⟩ = some (.slice A0 S.length c0_) ∧ w'.cell? ⟨gl, 1, none⟩ = some (.slice A1 I.length c1_) ∧ w'.cell? ⟨w.heap.size + 1 + 1, 0, none⟩ = some (.int .i64 (a : Int))) (ds := [8, 9]) #[false, false, false, false, false, false, false, false, false, false] (by kernel_rfl) rfl rfl ⟨hl0, hl1, hat⟩ (fun hHeld => ?_)
          generalize (w5.alloc (.cells #[.slice A0 S.length c0_, .slice A1 I.length c1_] 25)).drew = W6 at hl0 hl1 hat hO6 r2 r3 fA fO fR HE6 HR6 HO6 HS6 HI6 hHeld ⊢
          refine pure_ (i := 2) (N := some 53) (v := ?_) (a' := ?_) #[false, false, true, false, false, false, false, false, false, false] rfl rfl (by kernel_rfl) (fun _ _ _ h => h) (Or.inl ⟨by rfl, ?_⟩) ?_ ?_
          rotate_left
          · intro w'
            go_simp
            with_reducible rfl
          rotate_left
          · simp only [Act.put, List.setIfInBounds_toArray, List.set_cons_zero, List.set_cons_succ, i64_w, i32_w]
            rfl
          refine pure_ (i := 4) (N := some 55) (v := ?_) (a' := ?_) #[false, false, true, false, true, false, false, false, false, false] rfl rfl (by kernel_rfl) (fun _ _ _ h => h) (Or.inl ⟨by rfl, ?_⟩) ?_ ?_
          rotate_left
          · intro w'
            go_simp
            with_reducible rfl
          rotate_left
          · simp only [Act.put, List.setIfInBounds_toArray, List.set_cons_zero, List.set_cons_succ, i64_w, i32_w]
            rfl
          refine pure_ (i := 5) (N := some 56) (v := ?_) (a' := ?_) #[false, false, true, false, true, true, false, false, false, false] rfl rfl (by kernel_rfl) (fun _ _ _ h => h) (Or.inl ⟨by rfl, ?_⟩) ?_ ?_
          rotate_left
          · intro w'
            go_simp
            with_reducible rfl
          rotate_left
          · simp only [Act.put, List.setIfInBounds_toArray, List.set_cons_zero, List.set_cons_succ, i64_w, i32_w]
            rfl
          refine take_ (i := 0) (N := some 51) (v := ?_) (a' := ?_) #[true, false, true, false, true, true, false, false, false, false] rfl rfl (by kernel_rfl) (fun _ _ _ h => h) (Or.inl ⟨by rfl, ?_⟩) hHeld ?_ ?_
          rotate_left
          · rintro w' ⟨s0, s1, s2⟩
            go_simp
            with_reducible rfl
          rotate_left
          · simp only [Act.put, List.setIfInBounds_toArray, List.set_cons_zero, List.set_cons_succ, i64_w, i32_w]
            rfl
          refine pure_ (i := 6) (N := some 57) (v := ?_) (a' := ?_) #[true, false, true, false, true, true, true, false, false, false] rfl rfl (by kernel_rfl) (fun _ _ _ h => h) (Or.inl ⟨by rfl, ?_⟩) ?_ ?_
          rotate_left
          · intro w'
            go_simp
            with_reducible rfl
          rotate_left
          · simp only [Act.put, List.setIfInBounds_toArray, List.set_cons_zero, List.set_cons_succ, i64_w, i32_w]
            rfl
          refine take_ (i := 1) (N := some 52) (v := ?_) (a' := ?_) #[true, true, true, false, true, true, true, false, false, false] rfl rfl (by kernel_rfl) (fun _ _ _ h => h) (Or.inl ⟨by rfl, ?_⟩) hHeld ?_ ?_
          rotate_left
          · rintro w' ⟨s0, s1, s2⟩
            go_simp
            with_reducible rfl
          rotate_left
          · simp only [Act.put, List.setIfInBounds_toArray, List.set_cons_zero, List.set_cons_succ, i64_w, i32_w]
            rfl
          refine pure_ (i := 3) (N := some 54) (v := ?_) (a' := ?_) #[true, true, true, true, true, true, true, false, false, false] rfl rfl (by kernel_rfl) (fun _ _ _ h => h) (Or.inl ⟨by rfl, ?_⟩) ?_ ?_
          rotate_left
          · intro w'
            go_simp
            with_reducible rfl
          rotate_left
          · simp only [Act.put, List.setIfInBounds_toArray, List.set_cons_zero, List.set_cons_succ, i64_w, i32_w]
            rfl
          refine one_ (i := 7) (N := none) #[true, true, true, true, true, true, true, true, false, false] rfl rfl (by kernel_rfl) (by decide) (fun K hK => ?_)
          refine skip_ (w1 := ?_) (by rfl) rfl ?_ ?_
          rotate_left
          · go_simp
            rfl
          refine hK.out _ _ ⟨(cell_far (cell_far hHeld.1 ⟨gR, 2, none⟩ (.slice A0 S.length c0_) (by dsimp only; omega)) ⟨gR, 3, none⟩ (.slice A1 I.length c1_) (by dsimp only; omega)), (cell_far (cell_far hHeld.2.1 ⟨gR, 2, none⟩ (.slice A0 S.length c0_) (by dsimp only; omega)) ⟨gR, 3, none⟩ (.slice A1 I.length c1_) (by dsimp only; omega)), (cell_far (cell_far hHeld.2.2 ⟨gR, 2, none⟩ (.slice A0 S.length c0_) (by dsimp only; omega)) ⟨gR, 3, none⟩ (.slice A1 I.length c1_) (by dsimp only; omega))⟩ (fun hHeld => ?_)
          clear hK K
          refine last_ (i := 8) (N := none) #[true, true, true, true, true, true, true, true, true, false] rfl rfl (by kernel_rfl) (by decide) (fun K hK => ?_)
          refine skip_ (w1 := ?_) (by rfl) rfl ?_ ?_
          rotate_left
          · go_simp
            rfl
          refine hK.out _ _ ?_
          clear hK K
          refine last_ (i := 9) (N := none) #[true, true, true, true, true, true, true, true, true, true] rfl rfl (by kernel_rfl) (by decide) (fun K hK => ?_)
          refine skip_ (w1 := ?_) (by rfl) rfl ?_ ?_
          rotate_left
          · go_simp
            rfl
          refine hK.out _ _ ?_
          clear hK K
          refine done_ (by kernel_rfl) ?_

          have hsum : wrap64 ((a : Int) + (u : Int)) = ((a + u : Nat) : Int) := by have h63 : s.size ≤ 9223372036854775807 := hs; unfold wrap64; omega
          rw [hsum]
          have HF := Aside0.mk (Full.made HGL.out HE6.out HR6.out HO6.out HS6.out HI6.out (a + u) (e == 0))
          clear hgl' hl0 hl1 hat hO6 fA fO r2 r3 fR h5 HE6 HR6 HO6 HS6 HI6 hHeld hsum q0 q1 q2 q3 p0 p1 p2 p3
          generalize (((W6.setCell ⟨gR, 2, none⟩ (.slice A0 S.length c0_)).setCell ⟨gR, 3, none⟩ (.slice A1 I.length c1_)).setCell ⟨w.heap.size + 1 + 1, 0, none⟩ (.int .i64 ((a + u : Nat) : Int))).setCell ⟨w.heap.size + 1 + 1 + 1, 0, none⟩ (.bool (e == 0)) = W7 at HF ⊢
          obtain ⟨n5, ok5, a5, h5c⟩ : ∃ n5 ok5 a5, cnt (e == 0) s (a + u) = (n5, ok5, a5) := ⟨_, _, _, rfl⟩
          have HC := Aside0.mk (count_calls (w.heap.size + 1 + 1 + 1) (w.heap.size + 1 + 1) w.heap.size (by omega) (by omega) (by omega) s (by omega) (e == 0) (a + u) hau W7 HF.out.E.O HF.out.E.A HF.out.E.S)
          have hrg := cnt_range (e == 0) s (a + u) hau
          have hn5b : ok5 = true → n5 ≤ 2147483647 := by
            intro h
            have h1 := h5c
            unfold cnt at h1
            simp only [Prod.mk.injEq] at h1
            have h3 := h1.2.1
            rw [h, Bool.and_eq_true, decide_eq_true_eq] at h3
            rw [← h1.1]; exact h3.2
          have H := HT.out
          unfold tailF at H
          rw [h5c] at H HC hrg
          have hn5 : 0 ≤ n5 := hrg.1
          clear HT hrg h5c HL
          obtain ⟨c0, c1, c2, c3, c4, c5⟩ := HF.out.E.cells
          have hgl := HGL.out
          cases ok5 with
          | false =>
            simp only [Bool.false_eq_true, if_false, Option.some.injEq, Prod.mk.injEq] at H
            obtain ⟨rfl, rfl, rfl, rfl, rfl, rfl, rfl⟩ := H
            clear hn5b
            go_wp2_with (go_at_call 31; refine HC.out.mono ?_; rintro e' w8 ⟨rfl, hO, hA, hK⟩; have HF2 := Aside0.mk (HF.out.keep hO hA hK); clear hO hA hK HC HF c0 c1 c2 c3 c4 c5; obtain ⟨c0, c1, c2, c3, c4, c5⟩ := HF2.out.E.cells; have f4 := row_free HF2.out.R 4; obtain ⟨r0, r1, r2, r3, r4⟩ := row_cells HF2.out.R; obtain ⟨z0, z1, z2, z3, z4⟩ := zero_cells HF2.out.E.Z; have zf := zero_free HF2.out.E.Z; have q0 := eq_false (show ¬ gR = w.heap.size by omega); have q1 := eq_false (show ¬ gR = w.heap.size + 1 by omega); have q2 := eq_false (show ¬ gR = w.heap.size + 1 + 1 by omega); have q3 := eq_false (show ¬ gR = w.heap.size + 1 + 1 + 1 by omega); have p0 := eq_false (show ¬ w.heap.size = gR by omega); have p1 := eq_false (show ¬ w.heap.size + 1 = gR by omega); have p2 := eq_false (show ¬ w.heap.size + 1 + 1 = gR by omega); have p3 := eq_false (show ¬ w.heap.size + 1 + 1 + 1 = gR by omega))
            refine bodyPost_ret (results_ctt rfl _ _ (w.heap.size + 1) 27 #[.string ⟨#[]⟩, .slice none 0 0, .slice none 0 0, .slice none 0 0, .int .i64 0] (0, 0) _ rfl (row_put5 (HF2.out.setRow (wrap64 (n5 - 1))).E.Z _ _ _ _ _) Try.underlying27 rfl (by kernel_rfl)) rfl ?_
            exact ⟨_, _, _, rfl, Kd.R_nil _ _ _ _ _, Kd.R_nil _ _ _ _ _, Kd.R_nil _ _ _ _ _, below_put5 (HF2.out.setRow (wrap64 (n5 - 1))).E.B (Nat.le_succ _) _ _ _ _ _⟩
          | true =>
            have hn5c := hn5b rfl
            clear hn5b
            simp only [if_true] at H
            obtain ⟨c, hck, H⟩ := Option.bind_eq_some_iff.mp H
            have HK := Aside0.mk hck
            clear hck
            by_cases hc0 : c = 0
            · rw [if_pos hc0] at H
              subst hc0
              simp only [Option.some.injEq, Prod.mk.injEq] at H
              obtain ⟨rfl, rfl, rfl, rfl, rfl, rfl, rfl⟩ := H
              go_wp2_with (first | (go_at_call 31; refine HC.out.mono ?_; rintro e' w8 ⟨rfl, hO, hA, hK⟩; have HF2 := Aside0.mk (HF.out.keep hO hA hK); clear hO hA hK HC HF c0 c1 c2 c3 c4 c5; obtain ⟨c0, c1, c2, c3, c4, c5⟩ := HF2.out.E.cells; have f4 := row_free HF2.out.R 4; obtain ⟨r0, r1, r2, r3, r4⟩ := row_cells HF2.out.R; obtain ⟨z0, z1, z2, z3, z4⟩ := zero_cells HF2.out.E.Z; have zf := zero_free HF2.out.E.Z; have q0 := eq_false (show ¬ gR = w.heap.size by omega); have q1 := eq_false (show ¬ gR = w.heap.size + 1 by omega); have q2 := eq_false (show ¬ gR = w.heap.size + 1 + 1 by omega); have q3 := eq_false (show ¬ gR = w.heap.size + 1 + 1 + 1 by omega); have p0 := eq_false (show ¬ w.heap.size = gR by omega); have p1 := eq_false (show ¬ w.heap.size + 1 = gR by omega); have p2 := eq_false (show ¬ w.heap.size + 1 + 1 = gR by omega); have p3 := eq_false (show ¬ w.heap.size + 1 + 1 + 1 = gR by omega); have HF3 := Aside0.mk (HF2.out.setRow (n5 - 1)); clear HF2) | (go_at_call 16; obtain ⟨q5_, q6_, e1_, hc1, hC1⟩ := Kd.R_reads HF3.out.L; obtain ⟨q7_, q8_, e2_, hc2, hC2⟩ := Kd.R_reads HF3.out.S; obtain ⟨q9_, q10_, e3_, hc3, hC3⟩ := Kd.R_reads HF3.out.I; injection e1_ with e11 _ e12; injection e2_ with e21 _ e22; injection e3_ with e31 _ e32; subst e11 e12 e21 e22 e31 e32; refine (row_Check.calls k key _ _ cl _ _ S _ _ I (n5 - 1) _ _ hC1 hc1 hC2 hc2 hC3 hc3 HK.out).mono ?_; rintro e'' w9 ⟨rfl, hb⟩; have HF4 := Aside0.mk (HF3.out.below hb); clear hb hc1 hC1 hc2 hC2 hc3 hC3; obtain ⟨c0, c1, c2, c3, c4, c5⟩ := HF4.out.E.cells; obtain ⟨r0, r1, r2, r3, r4⟩ := row_cells HF4.out.R; obtain ⟨z0, z1, z2, z3, z4⟩ := zero_cells HF4.out.E.Z; have zf := zero_free HF4.out.E.Z))
              refine start_ (n := 5) (S := fun w' => w'.cell? ⟨gR, 0, none⟩ = some (.string key) ∧ w'.cell? ⟨gR, 1, none⟩ = some (.slice A2 cl.length c2_) ∧ w'.cell? ⟨gR, 2, none⟩ = some (.slice A0 S.length c0_) ∧ w'.cell? ⟨gR, 3, none⟩ = some (.slice A1 I.length c1_) ∧ w'.cell? ⟨gR, 4, none⟩ = some (.int .i64 (n5 - 1)) ∧ w'.cell? ⟨w.heap.size + 1 + 1, 0, none⟩ = some (.int .i64 (a5 : Int))) (ds := []) #[false, false, false, false, false] (by kernel_rfl) rfl rfl ⟨r0, r1, r2, r3, r4, c1⟩ (fun hHeld => ?_)
              refine take_ (i := 0) (N := some 70) (v := ?_) (a' := ?_) #[true, false, false, false, false] rfl rfl (by kernel_rfl) (fun _ _ _ h => h) (Or.inl ⟨by rfl, ?_⟩) hHeld ?_ ?_
              rotate_left
              · rintro w' ⟨s0, s1, s2, s3, s4, s5⟩
                go_simp
                with_reducible rfl
              rotate_left
              · simp only [Act.put, List.setIfInBounds_toArray, List.set_cons_zero, List.set_cons_succ, i64_w, i32_w]
                rfl
              refine take_ (i := 1) (N := some 71) (v := ?_) (a' := ?_) #[true, true, false, false, false] rfl rfl (by kernel_rfl) (fun _ _ _ h => h) (Or.inl ⟨by rfl, ?_⟩) hHeld ?_ ?_
              rotate_left
              · rintro w' ⟨s0, s1, s2, s3, s4, s5⟩
                go_simp
                with_reducible rfl
              rotate_left
              · simp only [Act.put, List.setIfInBounds_toArray, List.set_cons_zero, List.set_cons_succ, i64_w, i32_w]
                rfl
              refine one_ (i := 2) (N := none) #[true, true, true, false, false] rfl rfl (by kernel_rfl) (by decide) (fun K hK => ?_)
              refine skip_ (w1 := ?_) (by rfl) rfl ?_ ?_
              rotate_left
              · go_simp
                rfl
              refine hK.out _ _ (six_far (by omega) (by omega) hHeld _ _ _ _ _) (fun hHeld => ?_)
              clear hK K
              refine pure_ (i := 3) (N := some 3) (v := ?_) (a' := ?_) #[true, true, true, true, false] rfl rfl (by kernel_rfl) (fun _ _ _ h => h) (Or.inl ⟨by rfl, ?_⟩) ?_ ?_
              rotate_left
              · intro w'
                go_simp
                with_reducible rfl
              rotate_left
              · simp only [Act.put, List.setIfInBounds_toArray, List.set_cons_zero, List.set_cons_succ, i64_w, i32_w]
                rfl
              refine pure_ (i := 4) (N := some 4) (v := ?_) (a' := ?_) #[true, true, true, true, true] rfl rfl (by kernel_rfl) (fun _ _ _ h => h) (Or.inl ⟨by rfl, ?_⟩) ?_ ?_
              rotate_left
              · intro w'
                go_simp
                with_reducible rfl
              rotate_left
              · simp only [Act.put, List.setIfInBounds_toArray, List.set_cons_zero, List.set_cons_succ, i64_w, i32_w]
                rfl
              refine done_ (by kernel_rfl) ?_

              have hput := row_put5 HF4.out.E.Z (.string key) (.slice A2 cl.length c2_) (.slice A0 S.length c0_) (.slice A1 I.length c1_) (.int .i64 (n5 - 1))
              have hB := below_drew1 (below_put5 HF4.out.E.B (Nat.le_succ _) (.string key) (.slice A2 cl.length c2_) (.slice A0 S.length c0_) (.slice A1 I.length c1_) (.int .i64 (n5 - 1)))
              obtain ⟨d1, d2, d3⟩ := HF4.out.done (.string key) (.slice A2 cl.length c2_) (.slice A0 S.length c0_) (.slice A1 I.length c1_) (.int .i64 (n5 - 1))
              replace d1 := Kd.R_drew d1
              replace d2 := Kd.R_drew d2
              replace d3 := Kd.R_drew d3
              replace hput : (((((w9.setCell ⟨w.heap.size + 1, 0, none⟩ (.string key)).setCell ⟨w.heap.size + 1, 1, none⟩ (.slice A2 cl.length c2_)).setCell ⟨w.heap.size + 1, 2, none⟩ (.slice A0 S.length c0_)).setCell ⟨w.heap.size + 1, 3, none⟩ (.slice A1 I.length c1_)).setCell ⟨w.heap.size + 1, 4, none⟩ (.int .i64 (n5 - 1))).drew.heap[w.heap.size + 1]? = _ := hput
              have P1 := Aside0.mk hput
              have P2 := Aside0.mk hB
              have P3 := Aside0.mk (And.intro d1 (And.intro d2 d3))
              clear hput hB d1 d2 d3 HF4
              clear HK c0 c1 c2 c3 c4 c5 f4 r0 r1 r2 r3 r4 z0 z1 z2 z3 z4 zf q0 q1 q2 q3 p0 p1 p2 p3 hHeld HAs has hau hm2 hn5 hn5c
              go_wp2
              generalize (((((w9.setCell ⟨w.heap.size + 1, 0, none⟩ (.string key)).setCell ⟨w.heap.size + 1, 1, none⟩ (.slice A2 cl.length c2_)).setCell ⟨w.heap.size + 1, 2, none⟩ (.slice A0 S.length c0_)).setCell ⟨w.heap.size + 1, 3, none⟩ (.slice A1 I.length c1_)).setCell ⟨w.heap.size + 1, 4, none⟩ (.int .i64 (n5 - 1))).drew = w10 at P1 P2 P3 ⊢
              refine bodyPost_ret (results_ctt rfl _ _ (w.heap.size + 1) 27 #[.string key, .slice A2 cl.length c2_, .slice A0 S.length c0_, .slice A1 I.length c1_, .int .i64 (n5 - 1)] (0, 0) _ rfl P1.out Try.underlying27 rfl (by kernel_rfl)) rfl ?_
              exact ⟨_, _, _, rfl, P3.out.1, P3.out.2.1, P3.out.2.2, P2.out⟩
            · rw [if_neg hc0] at H
              simp only [Option.some.injEq, Prod.mk.injEq] at H
              obtain ⟨rfl, rfl, rfl, rfl, rfl, rfl, rfl⟩ := H
              have hcb : (c == 0) = false := beq_eq_false_iff_ne.2 hc0
              go_wp2_with (first | (go_at_call 31; refine HC.out.mono ?_; rintro e' w8 ⟨rfl, hO, hA, hK⟩; have HF2 := Aside0.mk (HF.out.keep hO hA hK); clear hO hA hK HC HF c0 c1 c2 c3 c4 c5; obtain ⟨c0, c1, c2, c3, c4, c5⟩ := HF2.out.E.cells; have f4 := row_free HF2.out.R 4; obtain ⟨r0, r1, r2, r3, r4⟩ := row_cells HF2.out.R; obtain ⟨z0, z1, z2, z3, z4⟩ := zero_cells HF2.out.E.Z; have zf := zero_free HF2.out.E.Z; have q0 := eq_false (show ¬ gR = w.heap.size by omega); have q1 := eq_false (show ¬ gR = w.heap.size + 1 by omega); have q2 := eq_false (show ¬ gR = w.heap.size + 1 + 1 by omega); have q3 := eq_false (show ¬ gR = w.heap.size + 1 + 1 + 1 by omega); have p0 := eq_false (show ¬ w.heap.size = gR by omega); have p1 := eq_false (show ¬ w.heap.size + 1 = gR by omega); have p2 := eq_false (show ¬ w.heap.size + 1 + 1 = gR by omega); have p3 := eq_false (show ¬ w.heap.size + 1 + 1 + 1 = gR by omega); have HF3 := Aside0.mk (HF2.out.setRow (n5 - 1)); clear HF2) | (go_at_call 16; obtain ⟨q5_, q6_, e1_, hc1, hC1⟩ := Kd.R_reads HF3.out.L; obtain ⟨q7_, q8_, e2_, hc2, hC2⟩ := Kd.R_reads HF3.out.S; obtain ⟨q9_, q10_, e3_, hc3, hC3⟩ := Kd.R_reads HF3.out.I; injection e1_ with e11 _ e12; injection e2_ with e21 _ e22; injection e3_ with e31 _ e32; subst e11 e12 e21 e22 e31 e32; refine (row_Check.calls k key _ _ cl _ _ S _ _ I (n5 - 1) _ _ hC1 hc1 hC2 hc2 hC3 hc3 HK.out).mono ?_; rintro e'' w9 ⟨rfl, hb⟩; have HF4 := Aside0.mk (HF3.out.below hb); clear hb hc1 hC1 hc2 hC2 hc3 hC3; obtain ⟨c0, c1, c2, c3, c4, c5⟩ := HF4.out.E.cells; obtain ⟨r0, r1, r2, r3, r4⟩ := row_cells HF4.out.R; obtain ⟨z0, z1, z2, z3, z4⟩ := zero_cells HF4.out.E.Z; have zf := zero_free HF4.out.E.Z))
              refine bodyPost_ret (results_ctt rfl _ _ (w.heap.size + 1) 27 #[.string ⟨#[]⟩, .slice none 0 0, .slice none 0 0, .slice none 0 0, .int .i64 0] (0, 0) _ rfl (row_put5 HF4.out.E.Z _ _ _ _ _) Try.underlying27 rfl (by kernel_rfl)) rfl ?_
              exact ⟨_, _, _, rfl, Kd.R_nil _ _ _ _ _, Kd.R_nil _ _ _ _ _, Kd.R_nil _ _ _ _ _, below_put5 HF4.out.E.B (Nat.le_succ _) _ _ _ _ _⟩
        · replace H : (if 0 ≤ u ∧ (a : Int) + u ≤ s.size then tailF k s key cl S I (e == 0) (a + u.toNat) else none) = some (r1, r2, r3, r4, r5, r6, r7) := H
          rw [if_neg hu] at H
          cases H
end Go.Proofs.Ythphoifaingbkaa.RowOf
