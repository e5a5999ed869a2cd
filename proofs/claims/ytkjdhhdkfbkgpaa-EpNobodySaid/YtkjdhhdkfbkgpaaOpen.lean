/- Arguments opened: what the form's reading of an argument tells, in the print's kinds; and the bounds that the form's reach gives. -/
import Derived.Test.YtkjdhhdkfbkgpaaWWords
import Derived.WalkKit
import Derived.ProofKit
import Derived.OpenShut
import Derived.ShutString
import Derived.SizedLaws
import Derived.Deep.Slices
namespace Go.Proofs.Ytkjdhhdkfbkgpaa.Open
open Go.RowKit Go.Proofs.YtkjdhhdkfbkgpaaW.PrintWords
set_option linter.unusedVariables false

/-- Cells of type t read as a value of the kind d, of which B holds. -/
structure Rd {α : Type} (P : Program) (t : TypeId) (d : Kd α) (B : α → Prop) : Prop where
  size : P.cellsOf t = d.sz
  open_ : ∀ {H : Type} {enc : TypeId × Value → H} {w : World} {base : Nat} {spare : Nat → Bool} {held : Bool} {fuel : Nat} {cs : List Value} {x : DataW H × List MemPlace},
    DataW.trod enc P w base spare held fuel t cs = some x → (∀ n ∈ x.1.weights P t, n ≤ reachBytes) → ∃ a, d.K w a cs ∧ B a

variable {P : Program}
theorem Rd.int {t : TypeId} {k : IntKind} (ht : P.underlying t = some (.int k)) (hs : P.cellsOf t = 1) : Rd P t (Kd.int k) (fun n => (Lit.int k n).wf = true) where
  size := hs
  open_ h _ := by
    obtain ⟨n, rfl, _, hw⟩ := DataW.trod_int ht h
    exact ⟨n, rfl, hw⟩
theorem Rd.bool {t : TypeId} (ht : P.underlying t = some .bool) (hs : P.cellsOf t = 1) : Rd P t Kd.bool (fun _ => True) where
  size := hs
  open_ h _ := by
    obtain ⟨n, rfl, _⟩ := DataW.trod_bool ht h
    exact ⟨n, rfl, trivial⟩
theorem Rd.string {t : TypeId} (ht : P.underlying t = some .string) (hs : P.cellsOf t = 1) : Rd P t Kd.string (fun s => s.size ≤ 140737488351232) where
  size := hs
  open_ h hw := by
    obtain ⟨s, rfl, rfl, _⟩ := DataW.trod_string ht h
    refine ⟨s, rfl, ?_⟩
    have := hw s.data.toList.length (by simp [DataW.weights])
    rw [Array.length_toList] at this
    exact this

theorem weights_all {H : Type} {e : TypeId} {l : List (DataW H)} {d : DataW H} (hd : d ∈ l) : ∀ n ∈ d.weights P e, n ∈ DataW.weightsAll P e l := by
  induction l with
  | nil => cases hd
  | cons a r ih =>
    intro n hn
    simp only [DataW.weightsAll, List.mem_append]
    rcases List.mem_cons.1 hd with rfl | hd
    · exact .inl hn
    · exact .inr (ih hd n hn)

theorem choose_list {α : Type} {n : Nat} {p : Nat → α → Prop} (h : ∀ i, i < n → ∃ a, p i a) : ∃ l : List α, l.length = n ∧ ∀ i a, l[i]? = some a → p i a := by
  induction n with
  | zero => exact ⟨[], rfl, fun i a hi => by simp at hi⟩
  | succ n ih =>
    obtain ⟨l, hl, hp⟩ := ih (fun i hi => h i (by omega))
    obtain ⟨a, ha⟩ := h n (by omega)
    refine ⟨l ++ [a], by simp [hl], fun i b hb => ?_⟩
    by_cases hi : i < n
    · rw [List.getElem?_append_left (by omega)] at hb
      exact hp i b hb
    · have := (List.getElem?_eq_some_iff.1 hb).1
      simp at this
      obtain rfl : i = n := by omega
      rw [List.getElem?_append_right (by omega)] at hb
      simp [hl] at hb
      subst hb
      exact ha

theorem Rd.slice {α : Type} {t e : TypeId} {d : Kd α} {B : α → Prop} (ht : P.underlying t = some (.slice e)) (hs : P.cellsOf t = 1) (he : Rd P e d B) (m : Nat) (hm : P.bytesOf e = m) :
    Rd P t (Kd.slice e d) (fun xs => xs.length * m ≤ 140737488351232 ∧ xs.length ≤ maxLen ∧ ∀ x ∈ xs, B x) where
  size := hs
  open_ {H enc w base spare held fuel cs x} h hw := by
    rcases DataW.trod_slice ht h with ⟨rfl, rfl⟩ | ⟨a, len, cap, elems, rest, n, _, rfl, rfl, _, hl, hm2, hlen, hel, _, _⟩
    · exact ⟨[], ⟨none, 0, rfl, by simp, rfl, by simp, fun h => absurd h (by simp)⟩, by simp, by simp, by simp⟩
    · simp only [DataW.weights, ht] at hw
      have each : ∀ i, i < len → ∃ b, (∃ c, c.length = d.sz ∧ d.K w b c ∧ ∀ j u, c[j]? = some u → w.cell? (a.add (i * d.sz + j)) = some u) ∧ B b := by
        intro i hi
        have h1 := hel i hi
        rw [List.getElem?_eq_getElem (by omega), Option.bind_eq_some_iff] at h1
        obtain ⟨c, hc, hy⟩ := h1
        obtain ⟨_, hcl, hcell⟩ := World.cells?_some hc
        obtain ⟨b, hb, hB⟩ := he.open_ hy (fun q hq => hw q (by
          simp only [List.mem_cons, List.mem_append]
          exact .inr (.inl (weights_all (List.mem_map_of_mem (f := Prod.fst) (List.getElem_mem (l := elems) (n := i) (by omega))) q hq))))
        refine ⟨b, ⟨c, by rw [hcl, he.size], hb, fun j u hu => ?_⟩, hB⟩
        have hj := (List.getElem?_eq_some_iff.1 hu).1
        have h2 := hcell j (by omega)
        rw [Go.Deep.add_add, he.size] at h2
        rw [h2]; exact hu
      obtain ⟨xs, hxl, hx⟩ := choose_list each
      have hz := hw _ List.mem_cons_self
      rw [hm] at hz
      simp only [List.length_map, reachBytes] at hz
      refine ⟨xs, ⟨some a, cap, by rw [hxl], by omega, rfl, by simp only [maxLen] at hm2; omega, fun _ => ⟨a, rfl, fun j p hj => (hx j p hj).1⟩⟩, ?_, by omega, fun x hx' => ?_⟩
      · refine Nat.le_trans (Nat.mul_le_mul_right _ (by omega)) hz
      · obtain ⟨i, hi⟩ := List.getElem?_of_mem hx'
        exact (hx i x hi).2

/-- The fields of a struct, from a place on. -/
structure RdFs {α : Type} (P : Program) (fs : List Field) (off : Nat) (d : Kd α) (B : α → Prop) : Prop where
  open_ : ∀ {H : Type} {enc : TypeId × Value → H} {w : World} {base : Nat} {spare : Nat → Bool} {held : Bool} {fuel : Nat} {cs : List Value} {ys : List (DataW H × List MemPlace)},
    cs.length = off + d.sz → ys.length = fs.length → (∀ (i : Nat) (f : Field), fs[i]? = some f → DataW.trod enc P w base spare held fuel f.type ((cs.drop f.offset).take (P.cellsOf f.type)) = ys[i]?) →
    (∀ n ∈ DataW.weightsEach P (fs.map (·.type)) (ys.map (·.1)), n ≤ reachBytes) → ∃ a, d.K w a (cs.drop off) ∧ B a
theorem RdFs.one {α : Type} {f : Field} {off : Nat} {d : Kd α} {B : α → Prop} (h : Rd P f.type d B) (ho : f.offset = off) : RdFs P [f] off d B where
  open_ {H enc w base spare held fuel cs ys} hl hy hf hw := by
    have h0 := hf 0 f rfl
    match ys, hy with
    | [y], _ =>
      rw [ho, h.size, List.take_of_length_le (by simp; omega)] at h0
      exact h.open_ h0 (fun n hn => hw n (by simpa [DataW.weightsEach] using hn))
theorem RdFs.cons {α β : Type} {f : Field} {fs : List Field} {off off' : Nat} {d : Kd α} {B : α → Prop} {d' : Kd β} {B' : β → Prop} (h : Rd P f.type d B) (ho : f.offset = off) (h' : RdFs P fs off' d' B') (hn : off + d.sz = off') :
    RdFs P (f :: fs) off (Kd.pair d d') (fun x => B x.1 ∧ B' x.2) where
  open_ {H enc w base spare held fuel cs ys} hl hy hf hw := by
    have hps : (Kd.pair d d').sz = d.sz + d'.sz := rfl
    rw [hps] at hl
    match ys, hy with
    | y :: ys, hy =>
      have h0 := hf 0 f rfl
      rw [ho, h.size] at h0
      obtain ⟨a, ha, hB⟩ := h.open_ h0 (fun n hn => hw n (by simp only [List.map_cons, DataW.weightsEach, List.mem_append]; exact .inl hn))
      obtain ⟨b, hb, hB'⟩ := h'.open_ (enc := enc) (w := w) (base := base) (spare := spare) (held := held) (fuel := fuel) (cs := cs) (ys := ys) (by omega) (by simpa using hy) (fun i g hg => by simpa using hf (i + 1) g (by simpa using hg)) (fun n hn => hw n (by simp only [List.map_cons, DataW.weightsEach, List.mem_append]; exact .inr hn))
      refine ⟨(a, b), ⟨_, _, ?_, ha, hb⟩, hB, hB'⟩
      rw [← hn, ← List.drop_drop, List.take_append_drop]
theorem Rd.struct {α : Type} {t : TypeId} {fs : Array Field} {d : Kd α} {B : α → Prop} (ht : P.underlying t = some (.struct fs)) (hs : P.cellsOf t = d.sz) (h : RdFs P fs.toList 0 d B) : Rd P t d B where
  size := hs
  open_ {H enc w base spare held fuel cs x} h0 hw := by
    obtain ⟨xs, n, _, rfl, hl, hlen, hf⟩ := DataW.trod_struct ht h0
    have := h.open_ (cs := cs) (ys := xs) (by omega) (by simpa using hlen) (fun i f hi => hf i f (by simpa using hi)) (fun n hn => hw n (by simp only [DataW.weights, ht]; exact hn))
    simpa using this
theorem Rd.iso {α β : Type} {t : TypeId} {d : Kd α} {B : α → Prop} (h : Rd P t d B) (f : β → α) (g : α → β) (hg : ∀ a, f (g a) = a) : Rd P t (Kd.iso d f) (fun x => B (f x)) where
  size := h.size
  open_ h0 hw := by
    obtain ⟨a, ha, hB⟩ := h.open_ h0 hw
    exact ⟨g a, by show d.K _ (f (g a)) _; rw [hg]; exact ha, by rw [hg]; exact hB⟩
theorem Rd.imp {α : Type} {t : TypeId} {d : Kd α} {B B' : α → Prop} (h : Rd P t d B) (hB : ∀ a, B a → B' a) : Rd P t d B' := ⟨h.size, fun h0 hw => let ⟨a, ha, hb⟩ := h.open_ h0 hw; ⟨a, ha, hB a hb⟩⟩

/-- An argument: its cells, as a whole. -/
theorem Rd.arg {α : Type} {t : TypeId} {d : Kd α} {B : α → Prop} (h : Rd P t d B) {H : Type} {enc : TypeId × Value → H} {w : World} {base : Nat} {spare : Nat → Bool} {held : Bool} {v : Value} {x : DataW H} {ps : List MemPlace} {ts : List TypeId} {ds : List (DataW H)} {j : Nat}
    (hv : DataW.Trod enc P w base spare held t v x ps) (hsz : (DataW.weightsEach P ts ds).all (· ≤ reachBytes) = true) (ht : ts[j]? = some t) (hd : ds[j]? = some x) : ∃ a, d.K w a v.cells.toList ∧ B a := by
  obtain ⟨fuel, hf⟩ := hv
  refine h.open_ hf (fun n hn => ?_)
  have := List.all_eq_true.1 hsz n (DataW.weights_mem_each ht hd n hn)
  simpa using this
theorem cells_agg (cs : Array Value) : (Value.agg cs).cells = cs := rfl
theorem of_toList {α : Type} {a : Array α} {l : List α} (h : a.toList = l) : a = l.toArray := by rw [← h]
end Go.Proofs.Ytkjdhhdkfbkgpaa.Open
