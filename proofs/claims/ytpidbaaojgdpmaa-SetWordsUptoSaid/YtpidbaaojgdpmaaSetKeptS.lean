/- set.kept at texts: DeleteFunc over a closure that searches a sorted list. -/
import Derived.Test.YtpidbaaojgdpmaaSetOfS
import Derived.Test.YtpidbaaojgdpmaaBsS
namespace Go.Proofs.Ytpidbaaojgdpmaa.SetWS
open Go.RowKit Go.Sort Go.Proofs.YtpidbaaojgdpmaaW.PrintWords Go.Proofs.Ytpidbaaojgdpmaa.SetF Go.Proofs.Ytpidbaaojgdpmaa.SetFS Go.Proofs.Ytpidbaaojgdpmaa.OwnPut
set_option linter.unusedVariables false
set_option linter.unusedSimpArgs false

theorem dec_eq {p q : Prop} [Decidable p] [Decidable q] (h : p ↔ q) : decide p = decide q := decide_eq_decide.2 h
theorem count_lt {l : List ByteArray} (h : RisesB l) (x : ByteArray) : ∀ t (ht : t < l.length), t < l.countP (fun y => decide (lt y x)) ↔ lt l[t] x := by
  induction l with
  | nil => intro t ht; simp at ht
  | cons a l ih =>
    obtain ⟨h1, h2⟩ := List.pairwise_cons.1 h
    intro t ht
    by_cases ha : lt a x
    · rw [List.countP_cons_of_pos (by simpa using ha)]
      rcases t with _ | t
      · simpa using ha
      · simp only [List.getElem_cons_succ]
        rw [← ih h2 t (by simpa using ht)]
        omega
    · have hz : l.countP (fun y => decide (lt y x)) = 0 := by
        rw [List.countP_eq_zero]
        intro y hy hlt
        exact ha (lt_trans (h1 y hy) (of_decide_eq_true hlt))
      rw [List.countP_cons_of_neg (by simpa using ha), hz]
      rcases t with _ | t
      · simpa using ha
      · simp only [List.getElem_cons_succ]
        refine ⟨fun h => absurd h (by omega), fun h => absurd (lt_trans (h1 _ (List.getElem_mem _)) h) ha⟩
theorem mem_at {l : List ByteArray} (h : RisesB l) (x : ByteArray) : (l.countP (fun y => decide (lt y x)) < l.length ∧ l.getD (l.countP (fun y => decide (lt y x))) x = x) ↔ x ∈ l := by
  constructor
  · rintro ⟨h1, h2⟩
    rw [List.getD_eq_getElem?_getD, List.getElem?_eq_getElem h1] at h2
    have h3 : l[l.countP (fun y => decide (lt y x))] = x := h2
    exact h3 ▸ List.getElem_mem _
  · intro hx
    obtain ⟨t, ht, e⟩ := List.getElem_of_mem hx
    have hk : ¬ t < l.countP (fun y => decide (lt y x)) := fun hlt => lt_irrefl x (e ▸ (count_lt h x t ht).1 hlt)
    have hlt : l.countP (fun y => decide (lt y x)) < l.length := by omega
    have hle : ¬ lt l[l.countP (fun y => decide (lt y x))] x := fun hl => absurd ((count_lt h x _ hlt).2 hl) (by omega)
    refine ⟨hlt, ?_⟩
    rw [List.getD_eq_getElem?_getD, List.getElem?_eq_getElem hlt]
    show l[l.countP (fun y => decide (lt y x))] = x
    by_cases he : l.countP (fun y => decide (lt y x)) = t
    · simp only [he]; exact e
    · exfalso
      have := List.pairwise_iff_getElem.1 h _ t hlt ht (by omega)
      rw [e] at this
      exact hle this
theorem bsearch_calls (A : Option Addr) (c : Nat) (l : List ByteArray) (x : ByteArray) (w : World) (hC : Kd.C Kd.string w A l.length l) (hl : RisesB l) (hlen : l.length * 16 ≤ 140737488355328) :
    Calls Try.prog 63 #[.slice A l.length c, .string x] w fun e w' => e = .returned (.tuple #[.int .i64 (l.countP (fun y => decide (lt y x)) : Nat), .bool (decide (x ∈ l))]) ∧ ∃ q, w' = w.drewN q := by
  by_cases hp : 0 < l.length
  · obtain ⟨b, o, rfl, hbw, hcells⟩ := texts_at hC hp
    have hs := Any2.slices_BinarySearch_string Try.laysNm226 b o l.length c (fun j => l.getD j x) x w (by omega) (fun j hj => by
      rw [hcells j hj, List.getD_eq_getElem?_getD, List.getD_eq_getElem?_getD, List.getElem?_eq_getElem hj]; rfl)
    have hk : Lib.bsGo (fun t => Op.bytesLess (l.getD t x).toList x.toList) l.length 0 l.length = l.countP (fun y => decide (lt y x)) := by
      have hkl : l.countP (fun y => decide (lt y x)) ≤ l.length := List.countP_le_length
      refine Lib.bsGo_spec _ _ (fun t ht => ?_) (fun t ht => ?_) l.length 0 l.length (by omega) (Nat.zero_le _) hkl
      · rw [bytesLess_eq, ByteArray.toList_eq, ByteArray.toList_eq, List.getD_eq_getElem?_getD, List.getElem?_eq_getElem (by omega)]
        exact decide_eq_true ((count_lt hl x t (by omega)).1 ht)
      · rw [bytesLess_eq, ByteArray.toList_eq, ByteArray.toList_eq, List.getD_eq_getElem?_getD]
        by_cases h2 : t < l.length
        · rw [List.getElem?_eq_getElem h2]
          exact decide_eq_false (fun h => absurd ((count_lt hl x t h2).2 h) (by omega))
        · rw [List.getElem?_eq_none (by omega)]
          exact decide_eq_false (List.lt_irrefl _)
    rw [hk] at hs
    refine hs.mono ?_
    rintro e w' ⟨he, hw⟩
    refine ⟨?_, hw⟩
    rw [he, dec_eq (mem_at hl x)]
  · obtain rfl : l = [] := List.eq_nil_of_length_eq_zero (by omega)
    refine (Any2.slices_BinarySearch_string_empty Try.laysNm226 A c x w).mono ?_
    rintro e w' ⟨he, hw⟩
    exact ⟨he, 0, hw⟩

def keepB (b : List ByteArray) (inn : Bool) (x : ByteArray) : Bool := decide (x ∈ b) != inn
set_option maxHeartbeats 4000000 in
set_option maxRecDepth 100000 in
theorem kept1_at (W0 : World) (gs gi : Nat) (A : Option Addr) (c : Nat) (b : List ByteArray) (inn : Bool) (hgs : gs < W0.heap.size) (hgi : gi < W0.heap.size) (hs : W0.cell? ⟨gs, 0, none⟩ = some (.slice A b.length c)) (hi : W0.cell? ⟨gi, 0, none⟩ = some (.bool inn))
    (hC : Kd.C Kd.string W0 A b.length b) (hl : RisesB b) (hlen : b.length * 16 ≤ 140737488355328) (W : World) (hb : Below W0.heap.size W0 W) (x : ByteArray) :
    FnGives Try.prog 62 #[.pointer (some ⟨gs, 0, none⟩), .pointer (some ⟨gi, 0, none⟩)] #[.string x] (.bool (keepB b inn x)) W := by
  show Calls Try.prog 62 #[.string x, .pointer (some ⟨gs, 0, none⟩), .pointer (some ⟨gi, 0, none⟩)] W _
  have c1 := (hb.cell (p := ⟨gs, 0, none⟩) hgs).trans hs
  have c2 := (hb.cell (p := ⟨gi, 0, none⟩) hgi).trans hi
  have HB := Aside0.mk (fun W' (h : Kd.C Kd.string W' A b.length b) => bsearch_calls A c b x W' h hl hlen)
  have HC := Aside0.mk (Kd.C_below hC hb)
  have HK := Aside0.mk (show keepB b inn x = (decide (x ∈ b) != inn) from rfl)
  clear hs hi hC hl hlen hb hgs hgi
  rw [HK.out]
  generalize hd : decide (x ∈ b) = d at *
  clear HK hd
  generalize hq : b.countP (fun y => decide (lt y x)) = q0 at *
  clear hq
  go_enter Try.func62, Try.ntmps62
  go_wp2_with (go_at_call 63; refine (HB.out _ HC.out).mono ?_; rintro e w1 ⟨rfl, q, rfl⟩)
  all_goals go_ret
  all_goals exact ⟨by first | rfl | (cases d <;> cases inn <;> first | rfl | simp_all), q, rfl⟩

set_option maxHeartbeats 4000000 in
set_option maxRecDepth 100000 in
theorem delete_calls (W0 W : World) (gs gi : Nat) (A : Option Addr) (c : Nat) (b : List ByteArray) (inn : Bool) (hgs : gs < W0.heap.size) (hgi : gi < W0.heap.size) (hs : W0.cell? ⟨gs, 0, none⟩ = some (.slice A b.length c)) (hi : W0.cell? ⟨gi, 0, none⟩ = some (.bool inn))
    (hC : Kd.C Kd.string W0 A b.length b) (hl : RisesB b) (hlen : b.length * 16 ≤ 140737488355328) (hb : Below W0.heap.size W0 W) (v : Value) (D : List ByteArray) (hD : D.length * 16 ≤ 140737488355328) (hR : Kd.R Kd.string 9 W W0.heap.size (fun _ => True) v D) :
    Calls Try.prog 61 #[v, .func (.func 62) #[] #[.pointer (some ⟨gs, 0, none⟩), .pointer (some ⟨gi, 0, none⟩)]] W fun e w' =>
      ∃ v', e = .returned v' ∧ Kd.R Kd.string 9 w' W0.heap.size (fun _ => True) v' (D.filter fun x => !keepB b inn x) ∧ Below W0.heap.size W0 w' := by
  have hz := hb.size
  by_cases hp : 0 < D.length
  · have ho := Kd.own_of_R hR
    obtain ⟨g, cap, rfl⟩ : ∃ g cap, v = .slice (some ⟨g, 0, none⟩) D.length cap := by
      rcases ho.2 with ⟨h1, h2⟩ | ⟨g, cap, cur, h1, _⟩
      · omega
      · exact ⟨g, cap, h1⟩
    have ho' : W.ownsRow W0.heap.size 9 1 (.slice (some ⟨g, 0, none⟩) D.length cap) D.length (D.map (Value.string)) := ho
    obtain ⟨hH, hg, hcap, hl2, hbg⟩ := own_holds ho'
    have eg : ∀ args w, (callFunc 62 args).run Try.prog w = .ok (.enter 62 args) w := enters_of Try.func62 (by kernel_rfl) rfl
    have hd := Try.slices_DeleteFunc_f61 (Value.string) (fun _ => rfl) (keepB b inn) 62 #[.pointer (some ⟨gs, 0, none⟩), .pointer (some ⟨gi, 0, none⟩)] eg ByteArray.empty Try.zeroValue9 g 0 cap D.toArray W
      (fun W' x h => kept1_at W0 gs gi A c b inn hgs hgi hs hi hC hl hlen W' (hb.trans (h.mono hz)) x)
      (fun n os dk x _ => kept1_at W0 gs gi A c b inn hgs hgi hs hi hC hl hlen _ (below_grow (below_put hb (Value.string) g n dk hbg) (by rw [put_size]; exact hz) os) x)
      hH (by simp; omega) (by simpa using hcap)
    rw [show D.toArray.size = D.length from by simp, show D.toArray.toList = D from by simp] at hd
    refine hd.mono ?_
    rintro e w' ⟨he, q, hw⟩
    have hle : (D.filter fun x => !keepB b inn x).length ≤ D.length := List.length_filter_le _ _
    have ho2 := own_put (enc := Value.string) ho' q ((D.filter fun x => !keepB b inn x) ++ List.replicate (D.length - (D.filter fun x => !keepB b inn x).length) ByteArray.empty).toArray (by simp; omega) (D.filter fun x => !keepB b inn x).length hle
    have hB2 := below_put hb (Value.string) g q ((D.filter fun x => !keepB b inn x) ++ List.replicate (D.length - (D.filter fun x => !keepB b inn x).length) ByteArray.empty).toArray hbg
    rw [← hw] at ho2 hB2
    have e_ : ((D.filter fun x => !keepB b inn x) ++ List.replicate (D.length - (D.filter fun x => !keepB b inn x).length) ByteArray.empty).toArray.toList.take (D.filter fun x => !keepB b inn x).length = (D.filter fun x => !keepB b inn x) := List.take_left
    rw [e_] at ho2
    exact ⟨_, he, R_own_text ho2, hB2⟩
  · obtain rfl : D = [] := List.eq_nil_of_length_eq_zero (by omega)
    obtain ⟨A', c', rfl⟩ := Kd.R_slice hR
    have HR := Aside0.mk hR
    have HB := Aside0.mk hb
    clear hs hi hC hl hlen hb hgs hgi hR hz hp hD
    simp only [List.length_nil, List.filter_nil]
    go_enter Try.func61, Try.ntmps61
    go_wp2_with (go_at_call 81; refine (Try.slices_IndexFunc_empty_f81 (α := ByteArray) A' c' _ _).mono ?_; rintro e w1 ⟨rfl, rfl⟩)
    go_ret
    exact ⟨_, rfl, HR.out, HB.out⟩
theorem filter_keep (a b : List ByteArray) (inn : Bool) : (ofB a).filter (fun x => !keepB (ofB b) inn x) = keptB a b inn := by
  unfold keptB keepB
  congr 1
  funext x
  have : decide (x ∈ ofB b) = decide (x ∈ b) := by rw [decide_eq_decide]; exact mem_ofB
  rw [this]
  cases decide (x ∈ b) <;> cases inn <;> rfl

theorem kept_tail (w w1 w2 : World) (As : Option Addr) (cs : Nat) (a b : List ByteArray) (inn : Bool) (v2 : Value) (ha : a.length * 16 ≤ 140737488355328) (hb : b.length * 16 ≤ 140737488355328) (hlb : RisesB b)
    (HR1 : Kd.R Kd.string 9 w1 (w.alloc (.cells #[.bool inn] 4)).heap.size (fun _ => True) (.slice As b.length cs) b) (HB1 : Below w.heap.size w w1) (HI1 : w1.heap[w.heap.size]? = some (.cells #[.bool inn] 4 (0, 0)))
    (HR2 : Kd.R Kd.string 9 w2 (w1.alloc (.cells #[.slice As b.length cs] 31)).heap.size (fun _ => True) v2 a) (HB2 : Below (w1.alloc (.cells #[.slice As b.length cs] 31)).heap.size (w1.alloc (.cells #[.slice As b.length cs] 31)) w2) :
    Calls Try.prog 61 #[v2, .func (.func 62) #[] #[.pointer (some ⟨w1.heap.size, 0, none⟩), .pointer (some ⟨w.heap.size, 0, none⟩)]] w2 (SlicePost w (a.filter fun x => !keepB b inn x)) := by
  have hlt : w.heap.size < w1.heap.size := (Array.getElem?_eq_some_iff.mp HI1).1
  have hsz : (w1.alloc (.cells #[.slice As b.length cs] 31)).heap.size = w1.heap.size + 1 := by simp
  have hgi : (w1.alloc (.cells #[.slice As b.length cs] 31)).heap[w.heap.size]? = some (.cells #[.bool inn] 4 (0, 0)) := ((below_alloc (Below.refl w1.heap.size w1) _).block w.heap.size hlt).trans HI1
  obtain ⟨A, c, e, _, hC⟩ := Kd.R_reads HR1
  obtain ⟨rfl, _, rfl⟩ : As = A ∧ True ∧ cs = c := by
    injection e with e1 e2 e3
    exact ⟨e1, trivial, e3⟩
  refine (delete_calls _ w2 w1.heap.size w.heap.size As cs b inn (by omega) (by omega) (by simp) (by rw [World.cell?]; simp only [hgi]; rfl) (Kd.C_alloc hC _) hlb hb HB2 v2 a ha HR2).mono ?_
  rintro e w' ⟨v', he, hR, hB⟩
  exact ⟨v', he, Kd.R_lower hR (by omega), (below_alloc HB1 _).trans (hB.mono (by omega))⟩

set_option maxHeartbeats 4000000 in
set_option maxRecDepth 100000 in
theorem kept_calls (A0 : Option Addr) (c0 : Nat) (l0 : List ByteArray) (A1 : Option Addr) (c1 : Nat) (l1 : List ByteArray) (inn : Bool) (w : World) (hr0 : Kd.C Kd.string w A0 l0.length l0) (hc0 : l0.length ≤ c0) (hb0 : l0.length * 16 ≤ 140737488355328) (hr1 : Kd.C Kd.string w A1 l1.length l1) (hc1 : l1.length ≤ c1) (hb1 : l1.length * 16 ≤ 140737488355328) :
    Calls Try.prog 45 #[.slice A0 l0.length c0, .slice A1 l1.length c1, .bool inn] w (SlicePost w (keptB l0 l1 inn)) := by
  have hmf : ∀ (fn : Fn) (first cap : Array Value) (w : World), (Instr.makeFunc fn first cap).run Try.prog w = .ok (.func fn first cap) w := fun _ _ _ _ => rfl
  have H0 := Aside0.mk hr0; have H1 := Aside0.mk hr1; have K0 := Aside0.mk hc0; have K1 := Aside0.mk hc1; have L0 := Aside0.mk hb0; have L1 := Aside0.mk hb1
  clear hr0 hr1 hc0 hc1 hb0 hb1
  rw [← filter_keep]
  go_enter Try.func45, Try.ntmps45
  go_wp2_with (first
    | (go_at_call 43; ((with_reducible refine (of_calls A1 c1 l1 _ (Kd.C_alloc H1.out _) K1.out L1.out).mono ?_); rintro e w1 ⟨v1, rfl, hR, hb⟩; obtain ⟨As, cs, es⟩ := Kd.R_slice hR; subst es; have HR1 := Aside0.mk hR; have HB1 := Aside0.mk (below_step (below_alloc (Below.refl _ _) _) hb); have HI1 := Aside0.mk (show w1.heap[w.heap.size]? = some (.cells #[.bool inn] 4 (0, 0)) from (hb.block w.heap.size (by simp)).trans (Go.heap_alloc_new w _)); clear hb hR))
    | (go_at_call 43; ((with_reducible refine (of_calls A0 c0 l0 _ (Kd.C_below H0.out (below_alloc HB1.out _)) K0.out L0.out).mono ?_); rintro e w2 ⟨v2, rfl, hR2, hb2⟩; have HR2 := Aside0.mk hR2; have HB2 := Aside0.mk hb2; clear hb2 hR2))
    | (go_at_call 61; refine (kept_tail w w1 w2 As cs (ofB l0) (ofB l1) inn v2 (Nat.le_trans (Nat.mul_le_mul_right 16 (ofB_len l0)) L0.out) (Nat.le_trans (Nat.mul_le_mul_right 16 (ofB_len l1)) L1.out) (ofB_rises l1) HR1.out HB1.out HI1.out HR2.out HB2.out).mono ?_; rintro e w3 ⟨v3, rfl, hR3, hb3⟩; have HR3 := Aside0.mk hR3; have HB3 := Aside0.mk hb3; clear hR3 hb3))
  go_ret
  exact ⟨_, rfl, HR3.out, HB3.out⟩
end Go.Proofs.Ytpidbaaojgdpmaa.SetWS
