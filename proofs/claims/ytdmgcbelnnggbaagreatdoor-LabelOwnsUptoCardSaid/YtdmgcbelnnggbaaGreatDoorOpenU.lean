/- Arguments opened, with their bulk: for statements of the second form. -/
import Derived.Test.YtdmgcbelnnggbaaGreatDoorRows
import Derived.Test.YtdmgcbelnnggbaaGreatDoorOpen
import Derived.Deep.CondSized
namespace Go.Proofs.YtdmgcbelnnggbaaGreatDoor.Open
open Go.RowKit Go.Proofs.YtdmgcbelnnggbaaGreatDoorW.PrintWords
set_option linter.unusedVariables false

/-- Cells of type t read as a value of the kind d, of which B holds, and whose bulk is bk at least. -/
structure Rdu {α : Type} (P : Program) (t : TypeId) (d : Kd α) (B : α → Prop) (bk : α → Nat) : Prop where
  size : P.cellsOf t = d.sz
  open_ : ∀ {H : Type} {enc : TypeId × Value → H} {w : World} {base : Nat} {spare : Nat → Bool} {held : Bool} {fuel : Nat} {cs : List Value} {x : DataW H × List MemPlace},
    DataW.trod enc P w base spare held fuel t cs = some x → (∀ n ∈ x.1.weights P t, n ≤ reachBytes) → ∃ a, d.K w a cs ∧ B a ∧ bk a ≤ Rows.uptoBulk x.1
variable {P : Program}
theorem Rdu.int {t : TypeId} {k : IntKind} (ht : P.underlying t = some (.int k)) (hs : P.cellsOf t = 1) : Rdu P t (Kd.int k) (fun n => (Lit.int k n).wf = true) (fun _ => 1) where
  size := hs
  open_ h _ := by
    obtain ⟨n, rfl, rfl, hw⟩ := DataW.trod_int ht h
    exact ⟨n, rfl, hw, by simp [Rows.uptoBulk]⟩
theorem Rdu.bool {t : TypeId} (ht : P.underlying t = some .bool) (hs : P.cellsOf t = 1) : Rdu P t Kd.bool (fun _ => True) (fun _ => 1) where
  size := hs
  open_ h _ := by
    obtain ⟨n, rfl, rfl⟩ := DataW.trod_bool ht h
    exact ⟨n, rfl, trivial, by simp [Rows.uptoBulk]⟩
theorem Rdu.string {t : TypeId} (ht : P.underlying t = some .string) (hs : P.cellsOf t = 1) : Rdu P t Kd.string (fun s => s.size ≤ 140737488351232) (fun s => s.size + 1) where
  size := hs
  open_ h hw := by
    obtain ⟨s, rfl, rfl, _⟩ := DataW.trod_string ht h
    refine ⟨s, rfl, ?_, ?_⟩
    · have := hw s.data.toList.length (by simp [DataW.weights])
      rw [Array.length_toList] at this
      exact this
    · simp only [Rows.uptoBulk]
      rw [Array.length_toList]; exact Nat.le_refl _
theorem bulk_sum {H α : Type} {bk : α → Nat} : ∀ (xs : List α) (ds : List (DataW H)), xs.length ≤ ds.length → (∀ (i : Nat) a d, xs[i]? = some a → ds[i]? = some d → bk a ≤ Rows.uptoBulk d) → (xs.map bk).sum ≤ Rows.uptoBulkAll ds
  | [], _, _, _ => by simp
  | x :: xs, [], h, _ => by simp at h
  | x :: xs, d :: ds, h, hp => by
    have h1 := hp 0 x d rfl rfl
    have h2 := bulk_sum xs ds (by simpa using h) (fun i a e ha he => hp (i + 1) a e (by simpa using ha) (by simpa using he))
    simp only [List.map_cons, List.sum_cons, Rows.uptoBulkAll]; omega
theorem Rdu.slice {α : Type} {t e : TypeId} {d : Kd α} {B : α → Prop} {bk : α → Nat} (ht : P.underlying t = some (.slice e)) (hs : P.cellsOf t = 1) (he : Rdu P e d B bk) (m : Nat) (hm : P.bytesOf e = m) :
    Rdu P t (Kd.slice e d) (fun xs => xs.length * m ≤ 140737488351232 ∧ xs.length ≤ maxLen ∧ ∀ x ∈ xs, B x) (fun xs => (xs.map bk).sum + 1) where
  size := hs
  open_ {H enc w base spare held fuel cs x} h hw := by
    rcases DataW.trod_slice ht h with ⟨rfl, rfl⟩ | ⟨a, len, cap, elems, rest, n, _, rfl, rfl, _, hl, hm2, hlen, hel, _, _⟩
    · exact ⟨[], ⟨none, 0, rfl, by simp, rfl, by simp, fun h => absurd h (by simp)⟩, by simp, by simp [Rows.uptoBulk]⟩
    · simp only [DataW.weights, ht] at hw
      have each : ∀ i, i < len → ∃ b, (∃ c, c.length = d.sz ∧ d.K w b c ∧ ∀ j u, c[j]? = some u → w.cell? (a.add (i * d.sz + j)) = some u) ∧ B b ∧ ∀ z, (elems.map Prod.fst)[i]? = some z → bk b ≤ Rows.uptoBulk z := by
        intro i hi
        have h1 := hel i hi
        rw [List.getElem?_eq_getElem (by omega), Option.bind_eq_some_iff] at h1
        obtain ⟨c, hc, hy⟩ := h1
        obtain ⟨_, hcl, hcell⟩ := World.cells?_some hc
        obtain ⟨b, hb, hB, hbk⟩ := he.open_ hy (fun q hq => hw q (by
          simp only [List.mem_cons, List.mem_append]
          exact .inr (.inl (weights_all (List.mem_map_of_mem (f := Prod.fst) (List.getElem_mem (l := elems) (n := i) (by omega))) q hq))))
        refine ⟨b, ⟨c, by rw [hcl, he.size], hb, fun j u hu => ?_⟩, hB, fun z hz => ?_⟩
        · have hj := (List.getElem?_eq_some_iff.1 hu).1
          have h2 := hcell j (by omega)
          rw [Go.Deep.add_add, he.size] at h2
          rw [h2]; exact hu
        · rw [List.getElem?_map, List.getElem?_eq_getElem (by omega)] at hz
          obtain rfl := Option.some.inj hz
          exact hbk
      obtain ⟨xs, hxl, hx⟩ := choose_list each
      have hz := hw _ List.mem_cons_self
      rw [hm] at hz
      simp only [List.length_map, reachBytes] at hz
      refine ⟨xs, ⟨some a, cap, by rw [hxl], by omega, rfl, by simp only [maxLen] at hm2; omega, fun _ => ⟨a, rfl, fun j p hj => (hx j p hj).1⟩⟩, ⟨?_, by omega, fun x hx' => ?_⟩, ?_⟩
      · refine Nat.le_trans (Nat.mul_le_mul_right _ (by omega)) hz
      · obtain ⟨i, hi⟩ := List.getElem?_of_mem hx'
        exact (hx i x hi).2.1
      · have := bulk_sum (bk := bk) xs (elems.map Prod.fst) (by simp; omega) (fun i b z hb hz => (hx i b hb).2.2 z hz)
        simp only [Rows.uptoBulk]
        have e : (elems.map fun x => x.fst) = elems.map Prod.fst := rfl
        rw [e]; omega
structure RdFsu {α : Type} (P : Program) (fs : List Field) (off : Nat) (d : Kd α) (B : α → Prop) (bk : α → Nat) : Prop where
  open_ : ∀ {H : Type} {enc : TypeId × Value → H} {w : World} {base : Nat} {spare : Nat → Bool} {held : Bool} {fuel : Nat} {cs : List Value} {ys : List (DataW H × List MemPlace)},
    cs.length = off + d.sz → ys.length = fs.length → (∀ (i : Nat) (f : Field), fs[i]? = some f → DataW.trod enc P w base spare held fuel f.type ((cs.drop f.offset).take (P.cellsOf f.type)) = ys[i]?) →
    (∀ n ∈ DataW.weightsEach P (fs.map (·.type)) (ys.map (·.1)), n ≤ reachBytes) → ∃ a, d.K w a (cs.drop off) ∧ B a ∧ bk a ≤ Rows.uptoBulkAll (ys.map (·.1))
theorem RdFsu.one {α : Type} {f : Field} {off : Nat} {d : Kd α} {B : α → Prop} {bk : α → Nat} (h : Rdu P f.type d B bk) (ho : f.offset = off) : RdFsu P [f] off d B bk where
  open_ {H enc w base spare held fuel cs ys} hl hy hf hw := by
    have h0 := hf 0 f rfl
    match ys, hy with
    | [y], _ =>
      rw [ho, h.size, List.take_of_length_le (by simp; omega)] at h0
      obtain ⟨a, h1, h2, h3⟩ := h.open_ h0 (fun n hn => hw n (by simpa [DataW.weightsEach] using hn))
      exact ⟨a, h1, h2, by simpa [Rows.uptoBulkAll] using h3⟩
theorem RdFsu.cons {α β : Type} {f : Field} {fs : List Field} {off off' : Nat} {d : Kd α} {B : α → Prop} {bk : α → Nat} {d' : Kd β} {B' : β → Prop} {bk' : β → Nat} (h : Rdu P f.type d B bk) (ho : f.offset = off) (h' : RdFsu P fs off' d' B' bk') (hn : off + d.sz = off') :
    RdFsu P (f :: fs) off (Kd.pair d d') (fun x => B x.1 ∧ B' x.2) (fun x => bk x.1 + bk' x.2) where
  open_ {H enc w base spare held fuel cs ys} hl hy hf hw := by
    have hps : (Kd.pair d d').sz = d.sz + d'.sz := rfl
    rw [hps] at hl
    match ys, hy with
    | y :: ys, hy =>
      have h0 := hf 0 f rfl
      rw [ho, h.size] at h0
      obtain ⟨a, ha, hB, hk⟩ := h.open_ h0 (fun n hn => hw n (by simp only [List.map_cons, DataW.weightsEach, List.mem_append]; exact .inl hn))
      obtain ⟨b, hb, hB', hk'⟩ := h'.open_ (enc := enc) (w := w) (base := base) (spare := spare) (held := held) (fuel := fuel) (cs := cs) (ys := ys) (by omega) (by simpa using hy) (fun i g hg => by simpa using hf (i + 1) g (by simpa using hg)) (fun n hn => hw n (by simp only [List.map_cons, DataW.weightsEach, List.mem_append]; exact .inr hn))
      refine ⟨(a, b), ⟨_, _, ?_, ha, hb⟩, ⟨hB, hB'⟩, ?_⟩
      · rw [← hn, ← List.drop_drop, List.take_append_drop]
      · simp only [List.map_cons, Rows.uptoBulkAll]; omega
theorem Rdu.struct {α : Type} {t : TypeId} {fs : Array Field} {d : Kd α} {B : α → Prop} {bk : α → Nat} (ht : P.underlying t = some (.struct fs)) (hs : P.cellsOf t = d.sz) (h : RdFsu P fs.toList 0 d B bk) : Rdu P t d B bk where
  size := hs
  open_ {H enc w base spare held fuel cs x} h0 hw := by
    obtain ⟨xs, n, _, rfl, hl, hlen, hf⟩ := DataW.trod_struct ht h0
    obtain ⟨a, h1, h2, h3⟩ := h.open_ (cs := cs) (ys := xs) (by omega) (by simpa using hlen) (fun i f hi => hf i f (by simpa using hi)) (fun n hn => hw n (by simp only [DataW.weights, ht]; exact hn))
    exact ⟨a, by simpa using h1, h2, by simp only [Rows.uptoBulk]; omega⟩
theorem Rdu.iso {α β : Type} {t : TypeId} {d : Kd α} {B : α → Prop} {bk : α → Nat} (h : Rdu P t d B bk) (f : β → α) (g : α → β) (hg : ∀ a, f (g a) = a) : Rdu P t (Kd.iso d f) (fun x => B (f x)) (fun x => bk (f x)) where
  size := h.size
  open_ h0 hw := by
    obtain ⟨a, ha, hB, hk⟩ := h.open_ h0 hw
    exact ⟨g a, by show d.K _ (f (g a)) _; rw [hg]; exact ha, by rw [hg]; exact hB, by rw [hg]; exact hk⟩
/-- An argument: its cells, as a whole. -/
theorem Rdu.arg {α : Type} {t : TypeId} {d : Kd α} {B : α → Prop} {bk : α → Nat} (h : Rdu P t d B bk) {H : Type} {enc : TypeId × Value → H} {w : World} {base : Nat} {spare : Nat → Bool} {held : Bool} {v : Value} {x : DataW H} {ps : List MemPlace} {ts : List TypeId} {ds : List (DataW H)} {j : Nat}
    (hv : DataW.Trod enc P w base spare held t v x ps) (hsz : (DataW.weightsEach P ts ds).all (· ≤ reachBytes) = true) (ht : ts[j]? = some t) (hd : ds[j]? = some x) : ∃ a, d.K w a v.cells.toList ∧ B a ∧ bk a ≤ Rows.uptoBulk x := by
  obtain ⟨fuel, hf⟩ := hv
  refine h.open_ hf (fun n hn => ?_)
  have := List.all_eq_true.1 hsz n (DataW.weights_mem_each ht hd n hn)
  simpa using this
end Go.Proofs.YtdmgcbelnnggbaaGreatDoor.Open
