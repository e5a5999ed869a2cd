/- vm.Run, whatever it is given; the law's code; awake. -/
import Derived.Test.YtbdamgopggeikaaVmRun3
import Derived.Test.YtbdamgopggeikaaVmRun4
namespace Go.Proofs.Ytbdamgopggeikaa.VmW
open Go.RowKit Go.Proofs.YtbdamgopggeikaaW.PrintWords Go.Proofs.YtbdamgopggeikaaW.PrintMore Go.Proofs.YtbdamgopggeikaaW.PrintLast Go.Proofs.Ytbdamgopggeikaa.Pvm
set_option linter.unusedVariables false
set_option linter.unusedSimpArgs false
theorem chk_snd {code : List In} (h : (chkP code).1 = 0) : chkP code = (0, 0) := by
  have : ∀ (n : Nat) (l : List In) (k : Nat), (chkL code n l k).1 = 0 → chkL code n l k = (0, 0) := by
    intro n l
    induction l with
    | nil => intro k _; rfl
    | cons i l ih =>
      intro k h
      unfold chkL at h ⊢
      split
      · rename_i h2; rw [if_pos h2] at h; exact ih _ h
      · rename_i h2; rw [if_neg h2] at h; simp at h
  unfold chkP at h ⊢
  split
  · rename_i h2; rw [if_pos h2] at h; simp at h
  · rename_i h2; rw [if_neg h2] at h; exact this _ _ _ h
theorem none_run {W : World} {p : Value} {f : Nat → Prop} {m : Mem} (hm : MemP W p f m) {err : Int} {e : Ending} {W' : World} (h : NonePost W err e W') : RunPost W p f ⟨⟨0, [], []⟩, m, 0, 0, 0, err⟩ e W' := by
  obtain ⟨rfl, hb⟩ := h
  exact run_none hm hb err
theorem run_calls (W : World) (Ac : Option Addr) (cc : Nat) (code : List In) (hC : Kd.C kIn W Ac code.length code) (hcap : code.length ≤ cc) (s : St) (A1 A2 : Option Addr) (c1 c2 : Nat) (h1 : Kd.C (Kd.int .i64) W A1 s.st.length s.st) (h2 : Kd.C (Kd.int .i64) W A2 s.ca.length s.ca)
    (p : Value) (f : Nat → Prop) (m : Mem) (hm : MemP W p f m) (hfar : ∀ ad, Ac = some ad → 0 < code.length → ¬ f ad.block) (fuel : Int) :
    Calls Try.prog 13 #[.slice Ac code.length cc, stV s A1 c1 A2 c2, memI p, .int .i64 fuel] W (RunPost W p f (runAll code s m fuel)) := by
  unfold runAll
  by_cases hc : (chkP code).1 = 0
  · rw [if_neg (by simpa using hc)]
    by_cases hv : fuel < 0 ∨ 1048576 < fuel ∨ ¬ mayP s code.length
    · rw [if_pos hv]
      exact (run_arg W Ac cc code hC hcap s A1 A2 c1 c2 h2 (memI p) fuel (chk_snd hc) (.inr ⟨p, rfl, hv⟩)).mono fun _ _ h => none_run hm h
    · rw [if_neg hv]
      have hs : mayP s code.length := Classical.not_not.1 fun h => hv (.inr (.inr h))
      have e : fuel = ((fuel.toNat : Nat) : Int) := by omega
      have := run_go W Ac cc code hC hcap s A1 A2 c1 c2 h1 h2 p f m hm hfar fuel.toNat (by omega) (chk_snd hc) hs
      rwa [← e] at this
  · rw [if_pos hc]
    exact (run_code W Ac cc code hC hcap _ _ _ _ fuel hc).mono fun _ _ h => none_run hm h
theorem run_nil (W : World) (Ac : Option Addr) (cc : Nat) (code : List In) (hC : Kd.C kIn W Ac code.length code) (hcap : code.length ≤ cc) (s : St) (A1 A2 : Option Addr) (c1 c2 : Nat) (h2 : Kd.C (Kd.int .i64) W A2 s.ca.length s.ca) (fuel : Int) :
    Calls Try.prog 13 #[.slice Ac code.length cc, stV s A1 c1 A2 c2, .nilIface, .int .i64 fuel] W (NonePost W (if (chkP code).1 = 0 then 1 else (chkP code).1)) := by
  by_cases hc : (chkP code).1 = 0
  · rw [if_pos hc]; exact run_arg W Ac cc code hC hcap s A1 A2 c1 c2 h2 .nilIface fuel (chk_snd hc) (.inl rfl)
  · rw [if_neg hc]; exact run_code W Ac cc code hC hcap _ _ _ _ fuel hc
/-- A literal code in memory. -/
def inCells (l : List In) : List Value := l.flatMap fun i => [.int .i64 i.f0, .int .i64 i.f1]
theorem inCells_get (l : List In) (j : Nat) (hj : j < l.length) : (inCells l)[j * 2]? = some (.int .i64 l[j].f0) ∧ (inCells l)[j * 2 + 1]? = some (.int .i64 l[j].f1) := by
  induction l generalizing j with
  | nil => simp at hj
  | cons i l ih =>
    cases j with
    | zero => exact ⟨rfl, rfl⟩
    | succ j =>
      have := ih j (by simpa using hj)
      have e1 : (j + 1) * 2 = j * 2 + 2 := by omega
      rw [e1]
      exact this
theorem code_lit (W : World) (l : List In) (cs : Array Value) (hcs : cs = (inCells l).toArray) (hl : l.length ≤ 1024) : Kd.C kIn (W.alloc (.cells cs 51)) (some ⟨W.heap.size, 0, none⟩) l.length l := by
  subst hcs
  refine ⟨rfl, by omega, fun hp => ⟨_, rfl, fun j i hj => ?_⟩⟩
  obtain ⟨hjl, e⟩ := List.getElem?_eq_some_iff.1 hj
  subst e
  refine ⟨[.int .i64 l[j].f0, .int .i64 l[j].f1], rfl, k51_mk _ _, fun q u hq => ?_⟩
  have hx := heap_alloc_new W (.cells (inCells l).toArray 51)
  rw [add_plain]
  have h2 := inCells_get l j hjl
  have : (W.alloc (.cells (inCells l).toArray 51)).cell? ⟨W.heap.size, j * 2 + q, none⟩ = (inCells l)[j * 2 + q]? := by
    rw [blk_cell hx]; simp
  show (W.alloc _).cell? ⟨W.heap.size, j * 2 + q, none⟩ = some u
  rw [this]
  match q, hq with
  | 0, hq => rw [← hq]; exact h2.1
  | 1, hq => rw [← hq]; exact h2.2
  | q + 2, hq => simp at hq
def sumL : List In := [⟨1, 2⟩, ⟨1, 3⟩, ⟨5, 0⟩, ⟨25, 0⟩]
def SumPost (W : World) (e : Ending) (W' : World) : Prop := e = .returned (.slice (some ⟨W.heap.size, 0, none⟩) 4 4) ∧ Kd.C kIn W' (some ⟨W.heap.size, 0, none⟩) sumL.length sumL ∧ Below W.heap.size W W'
set_option maxHeartbeats 4000000 in
theorem sum_calls (W : World) : Calls Try.prog 23 #[] W (SumPost W) := by
  have HC := Aside0.mk (code_lit W sumL #[.int .i64 1, .int .i64 2, .int .i64 1, .int .i64 3, .int .i64 5, .int .i64 0, .int .i64 25, .int .i64 0] rfl (by decide))
  go_enter Try.func23, Try.ntmps23
  go_wp2
  go_ret
  exact ⟨rfl, HC.out, below_alloc (Below.refl _ _) _⟩
theorem sum_run : runAll sumL ⟨0, [], []⟩ ⟨bytesOf ByteArray.empty, 0, 0⟩ 9 = ⟨⟨3, [5], []⟩, ⟨[], 0, 0⟩, 3, 0, 4, 0⟩ := by kernel_rfl
end Go.Proofs.Ytbdamgopggeikaa.VmW
