/- set.kept at ints: DeleteFunc over a closure that searches a sorted list. -/
import Derived.Test.YtclhddldbfdfdaaSetOf
namespace Go.Proofs.Ytclhddldbfdfdaa.SetW
open Go.RowKit Go.Sort Go.Proofs.YtclhddldbfdfdaaW.PrintWords Go.Proofs.Ytclhddldbfdfdaa.SetF Go.Proofs.Ytclhddldbfdfdaa.OwnPut
set_option linter.unusedVariables false
set_option linter.unusedSimpArgs false

theorem bsearch_calls (A : Option Addr) (c : Nat) (l : List Int) (x : Int) (w : World) (hC : Kd.C (Kd.int .i64) w A l.length l) (hl : Rises l) (hlen : l.length * 8 ≤ 140737488355328) :
    Calls Try.prog 55 #[.slice A l.length c, .int .i64 x] w fun e w' => e = .returned (.tuple #[.int .i64 (l.countP (· < x) : Nat), .bool (l.contains x)]) ∧ ∃ q, w' = w.drewN q := by
  by_cases hp : 0 < l.length
  · obtain ⟨b, o, rfl, hbw, hcells⟩ := ints_at hC hp
    have := Try.slices_BinarySearch_int b o l.length c l x w (Nat.le_refl _) (by omega) hcells (by rw [List.take_length]; exact hl.imp (fun h => Int.le_of_lt h))
    rw [List.take_length] at this
    exact this
  · obtain rfl : l = [] := List.eq_nil_of_length_eq_zero (by omega)
    refine (Try.slices_BinarySearch_int_empty A c x w).mono ?_
    rintro e w' ⟨he, hw⟩
    exact ⟨he, 0, hw⟩

def keepB (b : List Int) (inn : Bool) (x : Int) : Bool := b.contains x != inn
set_option maxHeartbeats 4000000 in
set_option maxRecDepth 100000 in
theorem kept1_at (W0 : World) (gs gi : Nat) (A : Option Addr) (c : Nat) (b : List Int) (inn : Bool) (hgs : gs < W0.heap.size) (hgi : gi < W0.heap.size) (hs : W0.cell? ⟨gs, 0, none⟩ = some (.slice A b.length c)) (hi : W0.cell? ⟨gi, 0, none⟩ = some (.bool inn))
    (hC : Kd.C (Kd.int .i64) W0 A b.length b) (hl : Rises b) (hlen : b.length * 8 ≤ 140737488355328) (W : World) (hb : Below W0.heap.size W0 W) (x : Int) :
    FnGives Try.prog 54 #[.pointer (some ⟨gs, 0, none⟩), .pointer (some ⟨gi, 0, none⟩)] #[.int .i64 x] (.bool (keepB b inn x)) W := by
  show Calls Try.prog 54 #[.int .i64 x, .pointer (some ⟨gs, 0, none⟩), .pointer (some ⟨gi, 0, none⟩)] W _
  have c1 := (hb.cell (p := ⟨gs, 0, none⟩) hgs).trans hs
  have c2 := (hb.cell (p := ⟨gi, 0, none⟩) hgi).trans hi
  have HB := Aside0.mk (fun W' (h : Kd.C (Kd.int .i64) W' A b.length b) => bsearch_calls A c b x W' h hl hlen)
  have HC := Aside0.mk (Kd.C_below hC hb)
  have HK := Aside0.mk (show keepB b inn x = (b.contains x != inn) from rfl)
  clear hs hi hC hl hlen hb hgs hgi
  rw [HK.out]
  generalize hd : b.contains x = d at *
  clear HK hd
  generalize hq : b.countP (· < x) = q0 at *
  clear hq
  go_enter Try.func54, Try.ntmps54
  go_wp2_with (go_at_call 55; refine (HB.out _ HC.out).mono ?_; rintro e w1 ⟨rfl, q, rfl⟩)
  all_goals go_ret
  all_goals exact ⟨by first | rfl | (cases d <;> cases inn <;> first | rfl | simp_all), q, rfl⟩

set_option maxHeartbeats 4000000 in
set_option maxRecDepth 100000 in
theorem delete_calls (W0 W : World) (gs gi : Nat) (A : Option Addr) (c : Nat) (b : List Int) (inn : Bool) (hgs : gs < W0.heap.size) (hgi : gi < W0.heap.size) (hs : W0.cell? ⟨gs, 0, none⟩ = some (.slice A b.length c)) (hi : W0.cell? ⟨gi, 0, none⟩ = some (.bool inn))
    (hC : Kd.C (Kd.int .i64) W0 A b.length b) (hl : Rises b) (hlen : b.length * 8 ≤ 140737488355328) (hb : Below W0.heap.size W0 W) (v : Value) (D : List Int) (hD : D.length * 8 ≤ 140737488355328) (hR : Kd.R (Kd.int .i64) 3 W W0.heap.size (fun _ => True) v D) :
    Calls Try.prog 53 #[v, .func (.func 54) #[] #[.pointer (some ⟨gs, 0, none⟩), .pointer (some ⟨gi, 0, none⟩)]] W fun e w' =>
      ∃ v', e = .returned v' ∧ Kd.R (Kd.int .i64) 3 w' W0.heap.size (fun _ => True) v' (D.filter fun x => !keepB b inn x) ∧ Below W0.heap.size W0 w' := by
  have hz := hb.size
  by_cases hp : 0 < D.length
  · have ho := Kd.own_of_R hR
    obtain ⟨g, cap, rfl⟩ : ∃ g cap, v = .slice (some ⟨g, 0, none⟩) D.length cap := by
      rcases ho.2 with ⟨h1, h2⟩ | ⟨g, cap, cur, h1, _⟩
      · omega
      · exact ⟨g, cap, h1⟩
    have ho' : W.ownsRow W0.heap.size 3 1 (.slice (some ⟨g, 0, none⟩) D.length cap) D.length (D.map (Value.int .i64)) := ho
    obtain ⟨hH, hg, hcap, hl2, hbg⟩ := own_holds ho'
    have eg : ∀ args w, (callFunc 54 args).run Try.prog w = .ok (.enter 54 args) w := enters_of Try.func54 (by kernel_rfl) rfl
    have hd := Try.slices_DeleteFunc (Value.int .i64) (fun _ => rfl) (keepB b inn) 54 #[.pointer (some ⟨gs, 0, none⟩), .pointer (some ⟨gi, 0, none⟩)] eg 0 Try.zeroValue3 g 0 cap D.toArray W
      (fun W' x h => kept1_at W0 gs gi A c b inn hgs hgi hs hi hC hl hlen W' (hb.trans (h.mono hz)) x)
      (fun n os dk x _ => kept1_at W0 gs gi A c b inn hgs hgi hs hi hC hl hlen _ (below_grow (below_put hb (Value.int .i64) g n dk hbg) (by rw [put_size]; exact hz) os) x)
      hH (by simp; omega) (by simpa using hcap)
    rw [show D.toArray.size = D.length from by simp, show D.toArray.toList = D from by simp] at hd
    refine hd.mono ?_
    rintro e w' ⟨he, q, hw⟩
    have hle : (D.filter fun x => !keepB b inn x).length ≤ D.length := List.length_filter_le _ _
    have ho2 := own_put (enc := Value.int .i64) ho' q ((D.filter fun x => !keepB b inn x) ++ List.replicate (D.length - (D.filter fun x => !keepB b inn x).length) 0).toArray (by simp; omega) (D.filter fun x => !keepB b inn x).length hle
    have hB2 := below_put hb (Value.int .i64) g q ((D.filter fun x => !keepB b inn x) ++ List.replicate (D.length - (D.filter fun x => !keepB b inn x).length) 0).toArray hbg
    rw [← hw] at ho2 hB2
    have e_ : ((D.filter fun x => !keepB b inn x) ++ List.replicate (D.length - (D.filter fun x => !keepB b inn x).length) 0).toArray.toList.take (D.filter fun x => !keepB b inn x).length = (D.filter fun x => !keepB b inn x) := List.take_left
    rw [e_] at ho2
    exact ⟨_, he, R_own_int ho2, hB2⟩
  · obtain rfl : D = [] := List.eq_nil_of_length_eq_zero (by omega)
    obtain ⟨A', c', rfl⟩ := Kd.R_slice hR
    have HR := Aside0.mk hR
    have HB := Aside0.mk hb
    clear hs hi hC hl hlen hb hgs hgi hR hz hp hD
    simp only [List.length_nil, List.filter_nil]
    go_enter Try.func53, Try.ntmps53
    go_wp2_with (go_at_call 58; refine (Try.slices_IndexFunc_empty (α := Int) A' c' _ _).mono ?_; rintro e w1 ⟨rfl, rfl⟩)
    go_ret
    exact ⟨_, rfl, HR.out, HB.out⟩
theorem filter_keep (a b : List Int) (inn : Bool) : (ofL a).filter (fun x => !keepB (ofL b) inn x) = keptL a b inn := by
  unfold keptL keepB
  congr 1
  funext x
  have : (ofL b).contains x = decide (x ∈ b) := by
    rw [Bool.eq_iff_iff, List.contains_iff_mem, mem_ofL]; simp
  rw [this]
  cases decide (x ∈ b) <;> cases inn <;> rfl

theorem kept_tail (w w1 w2 : World) (As : Option Addr) (cs : Nat) (a b : List Int) (inn : Bool) (v2 : Value) (ha : a.length * 8 ≤ 140737488355328) (hb : b.length * 8 ≤ 140737488355328) (hlb : Rises b)
    (HR1 : Kd.R (Kd.int .i64) 3 w1 (w.alloc (.cells #[.bool inn] 4)).heap.size (fun _ => True) (.slice As b.length cs) b) (HB1 : Below w.heap.size w w1) (HI1 : w1.heap[w.heap.size]? = some (.cells #[.bool inn] 4 (0, 0)))
    (HR2 : Kd.R (Kd.int .i64) 3 w2 (w1.alloc (.cells #[.slice As b.length cs] 23)).heap.size (fun _ => True) v2 a) (HB2 : Below (w1.alloc (.cells #[.slice As b.length cs] 23)).heap.size (w1.alloc (.cells #[.slice As b.length cs] 23)) w2) :
    Calls Try.prog 53 #[v2, .func (.func 54) #[] #[.pointer (some ⟨w1.heap.size, 0, none⟩), .pointer (some ⟨w.heap.size, 0, none⟩)]] w2 (SlicePost w (a.filter fun x => !keepB b inn x)) := by
  have hlt : w.heap.size < w1.heap.size := (Array.getElem?_eq_some_iff.mp HI1).1
  have hsz : (w1.alloc (.cells #[.slice As b.length cs] 23)).heap.size = w1.heap.size + 1 := by simp
  have hgi : (w1.alloc (.cells #[.slice As b.length cs] 23)).heap[w.heap.size]? = some (.cells #[.bool inn] 4 (0, 0)) := ((below_alloc (Below.refl w1.heap.size w1) _).block w.heap.size hlt).trans HI1
  obtain ⟨A, c, e, _, hC⟩ := Kd.R_reads HR1
  obtain ⟨rfl, _, rfl⟩ : As = A ∧ True ∧ cs = c := by
    injection e with e1 e2 e3
    exact ⟨e1, trivial, e3⟩
  refine (delete_calls _ w2 w1.heap.size w.heap.size As cs b inn (by omega) (by omega) (by simp) (by rw [World.cell?]; simp only [hgi]; rfl) (Kd.C_alloc hC _) hlb hb HB2 v2 a ha HR2).mono ?_
  rintro e w' ⟨v', he, hR, hB⟩
  exact ⟨v', he, Kd.R_lower hR (by omega), (below_alloc HB1 _).trans (hB.mono (by omega))⟩

set_option maxHeartbeats 4000000 in
set_option maxRecDepth 100000 in
theorem kept_calls (A0 : Option Addr) (c0 : Nat) (l0 : List Int) (A1 : Option Addr) (c1 : Nat) (l1 : List Int) (inn : Bool) (w : World) (hr0 : Kd.C (Kd.int .i64) w A0 l0.length l0) (hc0 : l0.length ≤ c0) (hb0 : l0.length * 8 ≤ 140737488355328) (hr1 : Kd.C (Kd.int .i64) w A1 l1.length l1) (hc1 : l1.length ≤ c1) (hb1 : l1.length * 8 ≤ 140737488355328) :
    Calls Try.prog 47 #[.slice A0 l0.length c0, .slice A1 l1.length c1, .bool inn] w (SlicePost w (keptL l0 l1 inn)) := by
  have hmf : ∀ (fn : Fn) (first cap : Array Value) (w : World), (Instr.makeFunc fn first cap).run Try.prog w = .ok (.func fn first cap) w := fun _ _ _ _ => rfl
  have H0 := Aside0.mk hr0; have H1 := Aside0.mk hr1; have K0 := Aside0.mk hc0; have K1 := Aside0.mk hc1; have L0 := Aside0.mk hb0; have L1 := Aside0.mk hb1
  clear hr0 hr1 hc0 hc1 hb0 hb1
  rw [← filter_keep]
  go_enter Try.func47, Try.ntmps47
  go_wp2_with (first
    | (go_at_call 45; ((with_reducible refine (of_calls A1 c1 l1 _ (Kd.C_alloc H1.out _) K1.out L1.out).mono ?_); rintro e w1 ⟨v1, rfl, hR, hb⟩; obtain ⟨As, cs, es⟩ := Kd.R_slice hR; subst es; have HR1 := Aside0.mk hR; have HB1 := Aside0.mk (below_step (below_alloc (Below.refl _ _) _) hb); have HI1 := Aside0.mk (show w1.heap[w.heap.size]? = some (.cells #[.bool inn] 4 (0, 0)) from (hb.block w.heap.size (by simp)).trans (Go.heap_alloc_new w _)); clear hb hR))
    | (go_at_call 45; ((with_reducible refine (of_calls A0 c0 l0 _ (Kd.C_below H0.out (below_alloc HB1.out _)) K0.out L0.out).mono ?_); rintro e w2 ⟨v2, rfl, hR2, hb2⟩; have HR2 := Aside0.mk hR2; have HB2 := Aside0.mk hb2; clear hb2 hR2))
    | (go_at_call 53; refine (kept_tail w w1 w2 As cs (ofL l0) (ofL l1) inn v2 (Nat.le_trans (Nat.mul_le_mul_right 8 (ofL_len l0)) L0.out) (Nat.le_trans (Nat.mul_le_mul_right 8 (ofL_len l1)) L1.out) (ofL_rises l1) HR1.out HB1.out HI1.out HR2.out HB2.out).mono ?_; rintro e w3 ⟨v3, rfl, hR3, hb3⟩; have HR3 := Aside0.mk hR3; have HB3 := Aside0.mk hb3; clear hR3 hb3))
  go_ret
  exact ⟨_, rfl, HR3.out, HB3.out⟩
end Go.Proofs.Ytclhddldbfdfdaa.SetW
