/- row.Of as a plain function. -/
import Derived.Test.YthphoifaingbkaaRowOf2
import Derived.Test.YthphoifaingbkaaPofx
namespace Go.Proofs.Ythphoifaingbkaa.RowOf
open Go.RowKit Go.Proofs.YthphoifaingbkaaW.PrintWords Go.Proofs.YthphoifaingbkaaW.PrintLast Go.Proofs.YthphoifaingbkaaW.PrintMore Go.Proofs.Ythphoifaingbkaa.Pof
set_option linter.unusedVariables false

/-- The cells' loop; d rounds are left. -/
def cellsGo (s : ByteArray) : Nat → Bool → Nat → Int → List ByteArray → List ByteArray × Bool × Nat
  | 0, ok, a, _, l => (l, ok, a)
  | d + 1, ok, a, n, l => if ok = true ∧ 0 < n then cellsGo s d ((rdF ok s a).2.1 && decide (l.length + 1 ≤ 8)) (rdF ok s a).2.2 (n - 1) (l ++ [(rdF ok s a).1]) else (l, ok, a)
/-- The end of Of: the number of who, and whether the row may be. -/
def tailF (k : Nat) (s key : ByteArray) (CL : List ByteArray) (S I : List Int) (b : Bool) (a : Nat) : Option (ByteArray × List ByteArray × List Int × List Int × Int × Int × Int) :=
  if (cnt b s a).2.1 = true then (row_Check.f k key CL S I ((cnt b s a).1 - 1)).bind fun c => if c = 0 then some (key, CL, S, I, (cnt b s a).1 - 1, ((cnt b s a).2.2 : Int), 0) else some (⟨#[]⟩, [], [], [], 0, 0, 110)
  else some (⟨#[]⟩, [], [], [], 0, 0, 110)
/-- row.Of's answer. -/
def ofF (k : Nat) (s : ByteArray) : Option (ByteArray × List ByteArray × List Int × List Int × Int × Int × Int) :=
  match rdF true s 0 with
  | (key, ok1, a1) => match cnt ok1 s a1 with
    | (n, ok2, a2) => match cellsGo s 10 ok2 a2 n [] with
      | (CL, ok3, a3) =>
        if ok3 = true then (label_Of.f k (s.extract a3 s.size)).bind fun r =>
          if 0 ≤ r.2.2.1 ∧ (a3 : Int) + r.2.2.1 ≤ s.size then tailF k s key CL r.1 r.2.1 (r.2.2.2 == 0) (a3 + r.2.2.1.toNat) else none
        else some (⟨#[]⟩, [], [], [], 0, 0, 110)
theorem tailF_mono (k : Nat) (s key : ByteArray) (CL : List ByteArray) (S I : List Int) (b : Bool) (a : Nat) : LeO (tailF k s key CL S I b a) (tailF (k + 1) s key CL S I b a) :=
  LeO.ite (LeO.bind (row_Check.mono _ _ _ _ _ _) (fun _ => LeO.refl _)) (LeO.refl _)
theorem ofF_mono (k : Nat) (s : ByteArray) : LeO (ofF k s) (ofF (k + 1) s) := by
  unfold ofF
  obtain ⟨key, ok1, a1⟩ := rdF true s 0
  simp only
  obtain ⟨n, ok2, a2⟩ := cnt ok1 s a1
  simp only
  obtain ⟨CL, ok3, a3⟩ := cellsGo s 10 ok2 a2 n []
  simp only
  exact LeO.ite (LeO.bind (label_Of.mono _ _) (fun r => LeO.ite (tailF_mono _ _ _ _ _ _ _ _) (LeO.refl _))) (LeO.refl _)
end Go.Proofs.Ythphoifaingbkaa.RowOf
