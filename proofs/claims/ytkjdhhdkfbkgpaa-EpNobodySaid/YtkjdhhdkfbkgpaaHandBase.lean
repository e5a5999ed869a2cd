/- Small words for contracts that are taken by hand, in the print's form. -/
import Derived.Test.YtkjdhhdkfbkgpaaWWords
namespace Go.Proofs.Ytkjdhhdkfbkgpaa.Hand
open Go.RowKit Go.Proofs.YtkjdhhdkfbkgpaaW.PrintWords

/-- A row with an element: its address has no spot; its cells. -/
theorem row_at {α : Type} {d : Kd α} {w : World} {A : Option Addr} {xs : List α} (h : Kd.C d w A xs.length xs) (hp : 0 < xs.length) (hs : 0 < d.sz) :
    ∃ b o, A = some ⟨b, o, none⟩ ∧ b < w.heap.size ∧ ∀ (j : Nat) p, xs[j]? = some p → ∃ c, c.length = d.sz ∧ d.K w p c ∧ ∀ (i : Nat) u, c[i]? = some u → w.cell? ⟨b, o + (j * d.sz + i), none⟩ = some u := by
  obtain ⟨ad, rfl, hc⟩ := h.2.2 hp
  obtain ⟨c, hl, hk, hcell⟩ := hc 0 xs[0] (List.getElem?_eq_getElem hp)
  have h0 := hcell 0 (c[0]'(by omega)) (List.getElem?_eq_getElem (by omega))
  obtain ⟨b, o, spot⟩ := ad
  have hspot : spot = none := by simpa [Addr.add] using World.cell?_spot h0
  subst hspot
  refine ⟨b, o, rfl, by simpa [Addr.add] using World.block_lt_of_cell? _ _ h0, fun j p hj => ?_⟩
  obtain ⟨c, hl, hk, hcell⟩ := hc j p hj
  exact ⟨c, hl, hk, fun i u hu => by have := hcell i u hu; rwa [Go.WideShapes.add_plain] at this⟩
theorem strings_at {w : World} {A : Option Addr} {xs : List ByteArray} (h : Kd.C Kd.string w A xs.length xs) (hp : 0 < xs.length) :
    ∃ b o, A = some ⟨b, o, none⟩ ∧ b < w.heap.size ∧ ∀ (j : Nat) x, xs[j]? = some x → w.cell? ⟨b, o + j, none⟩ = some (.string x) := by
  obtain ⟨b, o, rfl, hb, hc⟩ := row_at h hp (by decide)
  refine ⟨b, o, rfl, hb, fun j x hj => ?_⟩
  obtain ⟨c, hl, hk, hcell⟩ := hc j x hj
  obtain rfl : c = [.string x] := hk
  have := hcell 0 _ rfl
  rwa [show j * (Kd.string).sz + 0 = j from Nat.mul_one j] at this
end Go.Proofs.Ytkjdhhdkfbkgpaa.Hand
