/- label.Parse, as one plain function. -/
import Derived.Test.YtdmgcbelnnggbaaGreatDoorLabParse
namespace Go.Proofs.YtdmgcbelnnggbaaGreatDoor.LabW
open Go.RowKit Go.Sort Go.Lib Go.Proofs.YtdmgcbelnnggbaaGreatDoorW.PrintWords Go.Proofs.YtdmgcbelnnggbaaGreatDoorW.PrintMore Go.Proofs.YtdmgcbelnnggbaaGreatDoor.LabF
set_option linter.unusedVariables false
def parseL (s : ByteArray) : Option (List Int × List Int) :=
  if (preB s && sufB (preT s) && cutT (sufT (preT s)) && (readF (cutA (sufT (preT s)))).isSome && (readF (cutZ (sufT (preT s)))).isSome) = true ∧ chkL ((readF (cutA (sufT (preT s)))).getD []) ((readF (cutZ (sufT (preT s)))).getD []) = 0 then
    some ((readF (cutA (sufT (preT s)))).getD [], (readF (cutZ (sufT (preT s)))).getD []) else none
def ParsePost (w : World) (r : Option (List Int × List Int)) (e : Ending) (w' : World) : Prop :=
  match r with
  | some (x, y) => ∃ A c B d, e = .returned (.tuple #[.agg #[.slice A x.length c, .slice B y.length d], .int .i64 0]) ∧ x.length ≤ c ∧ y.length ≤ d ∧ Kd.C (Kd.int .i64) w' A x.length x ∧ Kd.C (Kd.int .i64) w' B y.length y ∧ Below w.heap.size w w'
  | none => e = .returned (.tuple #[.agg #[.slice none 0 0, .slice none 0 0], .int .i64 20]) ∧ Below w.heap.size w w'
theorem chk_two (s i : List Int) : chkL s i = 0 ∨ chkL s i = 20 := by unfold chkL; split <;> simp
theorem size_of (l : List UInt8) : (⟨l.toArray⟩ : ByteArray).size = l.length := by show l.toArray.size = _; simp
theorem trimP_le (l p : List UInt8) : (Lib.trimPrefix l p).length ≤ l.length := by unfold Lib.trimPrefix; split <;> simp
theorem trimS_le (l p : List UInt8) : (Lib.trimSuffix l p).length ≤ l.length := by unfold Lib.trimSuffix; split <;> simp
theorem cut_le (l p : List UInt8) : (Lib.cut l p).1.length ≤ l.length ∧ (Lib.cut l p).2.1.length ≤ l.length := by unfold Lib.cut; split <;> (constructor <;> simp <;> exact Nat.min_le_right _ _)
theorem parse_calls (s : ByteArray) (hs : s.size ≤ 1048576) (w : World) (hE : Env w) : Calls Tryz.prog 35 #[.string s] w (ParsePost w (parseL s)) := by
  have hd : ∀ s : ByteArray, s.data.toList.length = s.size := fun s => by show _ = s.data.size; exact Array.length_toList
  have h1 : (preT s).size ≤ s.size := by unfold preT; rw [size_of, ← hd]; exact trimP_le _ _
  have h2 : (sufT (preT s)).size ≤ (preT s).size := by unfold sufT; rw [size_of, ← hd]; exact trimS_le _ _
  have h3 : (cutA (sufT (preT s))).size ≤ (sufT (preT s)).size := by unfold cutA; rw [size_of, ← hd]; exact (cut_le _ _).1
  have h4 : (cutZ (sufT (preT s))).size ≤ (sufT (preT s)).size := by unfold cutZ; rw [size_of, ← hd]; exact (cut_le _ _).2
  refine parse_try s hs w hE (by omega) (by omega) (by omega) (by omega) _ (fun w' h hb => ?_) (fun A c B d w' b1 b2 b3 b4 b5 b6 hc hd' hA hB hb => ?_)
  · have : parseL s = none := by
      unfold parseL
      refine if_neg (fun ⟨a, b⟩ => ?_)
      rcases h with h | h
      · rw [h] at a; cases a
      · rw [h] at b; cases b
    rw [this]
    exact ⟨rfl, hb⟩
  · have : parseL s = some ((readF (cutA (sufT (preT s)))).getD [], (readF (cutZ (sufT (preT s)))).getD []) := by
      unfold parseL
      exact if_pos ⟨by rw [b1, b2, b3, b4, b5]; rfl, b6⟩
    rw [this]
    exact ⟨A, c, B, d, rfl, hc, hd', hA, hB, hb⟩
def txt132 : ByteArray := ⟨#[123, 49, 44, 51, 124, 50, 125]⟩
theorem parse_132 : parseL txt132 = some ([1, 3], [2]) := by decide +kernel
end Go.Proofs.YtdmgcbelnnggbaaGreatDoor.LabW
