/- The machine's step, whatever instruction it is. -/
import Derived.Test.YtbdamgopggeikaaVmS1
import Derived.Test.YtbdamgopggeikaaVmS2
import Derived.Test.YtbdamgopggeikaaVmS3
import Derived.Test.YtbdamgopggeikaaVmS4
namespace Go.Proofs.Ytbdamgopggeikaa.VmW
open Go.RowKit Go.Proofs.YtbdamgopggeikaaW.PrintWords Go.Proofs.YtbdamgopggeikaaW.PrintMore Go.Proofs.YtbdamgopggeikaaW.PrintLast Go.Proofs.Ytbdamgopggeikaa.Pvm
set_option linter.unusedVariables false
theorem step_calls (W : World) (base g : Nat) (Ac : Option Addr) (cc : Nat) (code : List In) (p : Value) (f : Nat → Prop) (v1 v2 : Value) (s : St) (m : Mem) (h : Mach W base g Ac cc code p f v1 v2 s m) (hbase : base ≤ W.heap.size) (hs : mayP s code.length) (hc : ∀ i ∈ code, okI i code.length = true) (hlen : code.length ≤ 1024) :
    Calls Try.prog 27 #[.pointer (some ⟨g, 0, none⟩)] W (StepPost W base g Ac cc code p f v1 v2 (stepP memK code s m)) := by
  by_cases hpc : s.pc = (code.length : Int)
  · exact step_end W base g Ac cc code p f v1 v2 s m h hbase hs hpc hlen
  have hlt : s.pc < (code.length : Int) := by have := hs.2.1; omega
  rcases hi : inAt code s.pc with ⟨op, a⟩
  have hok := hc _ (inAt_mem hs.1 hlt)
  rw [hi] at hok
  cases hh : hasP op a s.st.length with
  | false => exact step_hasno W base g Ac cc code p f v1 v2 s m h hbase hs hlt hlen op a hi hh
  | true =>
    by_cases e : op = 1
    · subst e; exact step_push W base g Ac cc code p f v1 v2 s m h hbase hs hlt hlen a hi hh
    by_cases e3 : op = 3
    · subst e3; exact step_dup W base g Ac cc code p f v1 v2 s m h hbase hs hlt hlen a (by unfold okI at hok; simp at hok; exact hok.1) hi hh
    by_cases e2 : op = 2
    · subst e2; exact step_pop W base g Ac cc code p f v1 v2 s m h hbase hs hlt hlen a hi hh
    by_cases e4 : op = 4
    · subst e4; exact step_swap W base g Ac cc code p f v1 v2 s m h hbase hs hlt hlen a hi hh
    by_cases e17 : op = 17
    · subst e17; exact step_not W base g Ac cc code p f v1 v2 s m h hbase hs hlt hlen a hi hh
    by_cases e18 : op = 18
    · subst e18
      rcases hx : memK.load m (lastP s.st 0) with ⟨m', y, ok⟩
      cases ok with
      | false => exact step_loadno W base g Ac cc code p f v1 v2 s m h hbase hs hlt hlen a m' y hx hi hh
      | true => exact step_load W base g Ac cc code p f v1 v2 s m h hbase hs hlt hlen a m' y hx hi hh
    by_cases e19 : op = 19
    · subst e19
      rcases hx : memK.store m (lastP s.st 0) (lastP s.st 1 % 256) with ⟨m', ok⟩
      cases ok with
      | false => exact step_storeno W base g Ac cc code p f v1 v2 s m h hbase hs hlt hlen a m' hx hi hh
      | true => exact step_store W base g Ac cc code p f v1 v2 s m h hbase hs hlt hlen a m' hx hi hh
    by_cases e20 : op = 20
    · subst e20; exact step_jump W base g Ac cc code p f v1 v2 s m h hbase hs hlt hlen a hi hh
    by_cases e21 : op = 21
    · subst e21
      by_cases hx : lastP s.st 0 = 0
      · exact step_ifno W base g Ac cc code p f v1 v2 s m h hbase hs hlt hlen a hx hi hh
      · exact step_ifyes W base g Ac cc code p f v1 v2 s m h hbase hs hlt hlen a hx hi hh
    by_cases e22 : op = 22
    · subst e22
      by_cases hx : s.ca.length = 32
      · exact step_callno W base g Ac cc code p f v1 v2 s m h hbase hs hlt hlen a hx hi hh
      · exact step_call W base g Ac cc code p f v1 v2 s m h hbase hs hlt hlen a hx hi hh
    by_cases e23 : op = 23
    · subst e23
      by_cases hx : s.ca.length = 0
      · exact step_retno W base g Ac cc code p f v1 v2 s m h hbase hs hlt hlen a hx hi hh
      · exact step_ret W base g Ac cc code p f v1 v2 s m h hbase hs hlt hlen a hx hi hh
    by_cases e24 : op = 24
    · subst e24; exact step_trap W base g Ac cc code p f v1 v2 s m h hbase hs hlt hlen a hi hh
    by_cases e25 : op = 25
    · subst e25; exact step_halt W base g Ac cc code p f v1 v2 s m h hbase hs hlt hlen a hi hh
    rcases hx : bothP op (lastP s.st 1) (lastP s.st 0) with ⟨y, ok⟩
    cases ok with
    | false => exact step_bothno W base g Ac cc code p f v1 v2 s m h hbase hs hlt hlen op a e e3 e2 e4 e17 e18 e19 e20 e21 e22 e23 e24 e25 y hx hi hh
    | true => exact step_both W base g Ac cc code p f v1 v2 s m h hbase hs hlt hlen op a e e3 e2 e4 e17 e18 e19 e20 e21 e22 e23 e24 e25 y hx hi hh
end Go.Proofs.Ytbdamgopggeikaa.VmW
