/- label.Bytes by hand, in the print's form: its bytes are those of the two sets, each number's own behind one another. -/
import Derived.Test.YthphoifaingbkaaHandBase
import Derived.Test.YthphoifaingbkaaPofx
namespace Go.Proofs.Ythphoifaingbkaa.LabelB
open Go.RowKit Go.Proofs.YthphoifaingbkaaW.PrintWords Go.Proofs.YthphoifaingbkaaW.PrintLast Go.Proofs.YthphoifaingbkaaW.PrintMore Go.Proofs.Ythphoifaingbkaa.Pof
set_option linter.unusedVariables false
set_option linter.unusedSimpArgs false

/-- A number's bytes: seven bits each, the low ones first. -/
def uv (n : Int) : List Int := if h : n ≥ 128 then Go.bits .or .u8 (n % 256) 128 :: uv (n / 128) else [n % 256]
termination_by n.toNat
decreasing_by omega

theorem uv_len (d : Nat) : ∀ n : Int, n < 128 ^ (d + 1) → (uv n).length ≤ d + 1 := by
  induction d with
  | zero => intro n h; unfold uv; rw [dif_neg (by omega)]; simp
  | succ d ih =>
    intro n h
    unfold uv
    split
    · have := ih (n / 128) (by rw [Int.ediv_lt_iff_lt_mul (by omega)]; rw [Int.pow_succ] at h; exact h)
      simp; omega
    · simp

/-- label.count puts them behind others. -/
theorem count_eq (d : Nat) : ∀ (out : List Int) (n : Int) (k : Nat), n < 128 ^ (d + 1) → d < k → out.length + d + 1 < 140737488355328 → label_count.f k out n = some (out ++ uv n) := by
  induction d with
  | zero =>
    intro out n k h hk hl
    obtain ⟨k, rfl⟩ : ∃ m, k = m + 1 := ⟨k - 1, by omega⟩
    unfold label_count.f label_count.l0 uv
    rw [if_neg (by omega), if_pos (by omega), dif_neg (by omega)]
  | succ d ih =>
    intro out n k h hk hl
    obtain ⟨k, rfl⟩ : ∃ m, k = m + 1 := ⟨k - 1, by omega⟩
    unfold label_count.f label_count.l0 uv
    by_cases c : n ≥ 128
    · rw [if_pos c, if_pos (by omega), dif_pos c]
      have := ih (out ++ [Go.bits .or .u8 (n % 256) 128]) (n / 128) k (by rw [Int.ediv_lt_iff_lt_mul (by omega)]; rw [Int.pow_succ] at h; exact h) (by omega) (by simp; omega)
      unfold label_count.f at this
      rw [this]; simp
    · rw [if_neg c, if_pos (by omega), dif_neg c]

theorem lt_of_block {w : World} {g : Nat} {o : Obj} (h : w.heap[g]? = some o) : g < w.heap.size := (Array.getElem?_eq_some_iff.1 h).1
theorem kept_block {w w' : World} {S : Nat → Prop} {g : Nat} {o : Obj} (h : w.heap[g]? = some o) (hk : Kept w w' S) (hs : ¬ S g) : w'.heap[g]? = some o := (hk.2 g (lt_of_block h) hs).trans h

/-- Do numbers rise, from above a bound on, up to the greatest category? -/
def catsP (last : Int) : List Int → Bool
  | [] => true
  | c :: r => if c ≤ last then false else if c > 2147483647 then false else catsP c r
theorem cats_l0 (l : List Int) (hm : l.length ≤ 9223372036854775807) : ∀ (d i : Nat) (last : Int) (k : Nat), l.length - i = d → i ≤ l.length → d < k → label_cats.l0 k last l (l.length : Int) i = some (catsP last (l.drop i)) := by
  intro d
  induction d with
  | zero =>
    intro i last k h hi hk
    obtain ⟨k, rfl⟩ : ∃ m, k = m + 1 := ⟨k - 1, by omega⟩
    unfold label_cats.l0
    rw [if_neg (by omega), List.drop_of_length_le (by omega)]; rfl
  | succ d ih =>
    intro i last k h hi hk
    obtain ⟨k, rfl⟩ : ∃ m, k = m + 1 := ⟨k - 1, by omega⟩
    have hlt : i < l.length := by omega
    have hrd : rd l i = l[i] := by simp [rd, List.getD_eq_getElem?_getD, List.getElem?_eq_getElem hlt]
    unfold label_cats.l0
    rw [if_pos (by omega), if_pos (by omega), if_pos (by omega), hrd, List.drop_eq_getElem_cons hlt, show wrap64 ((i : Int) + 1) = ((i + 1 : Nat) : Int) from by unfold wrap64; omega, ih (i + 1) l[i] k (by omega) (by omega) (by omega)]
    rw [show catsP last (l[i] :: l.drop (i + 1)) = if l[i] ≤ last then false else if l[i] > 2147483647 then false else catsP l[i] (l.drop (i + 1)) from by rw [catsP]]
    split
    · rfl
    · split <;> rfl
theorem cats_eq (l : List Int) (hm : l.length ≤ 9223372036854775807) (k : Nat) (hk : l.length < k) : label_cats.f k l = some (catsP 0 l) := by
  have := cats_l0 l hm l.length 0 0 k (by omega) (by omega) hk
  simpa [label_cats.f] using this
def okL (l0 l1 : List Int) : Bool := decide (l0.length ≤ 64) && decide (l1.length ≤ 64) && catsP 0 l0 && catsP 0 l1
theorem check_eq (l0 l1 : List Int) (k : Nat) (hk : 64 < k) : label_Check.f k l0 l1 = some (if okL l0 l1 = true then 0 else 20) := by
  unfold label_Check.f okL
  by_cases h0 : l0.length ≤ 64
  · by_cases h1 : l1.length ≤ 64
    · rw [if_neg (by omega), if_neg (by omega), cats_eq l0 (by omega) k (by omega), Option.bind_some, cats_eq l1 (by omega) k (by omega)]
      cases catsP 0 l0 <;> cases catsP 0 l1 <;> simp [h0, h1]
    · rw [if_neg (by omega), if_pos (by omega)]; simp [h1]
  · rw [if_pos (by omega)]; simp [h0]

/-- A set's bytes: how many; each one less the one ahead. -/
def encTail (last : Int) : List Int → List Int
  | [] => []
  | c :: r => uv (c - last) ++ encTail c r
def encSet (l : List Int) : List Int := uv l.length ++ encTail 0 l
def bytesF (l0 l1 : List Int) : Option (ByteArray × Int) := some (if okL l0 l1 = true then (strOfNums (encSet l0 ++ encSet l1), 0) else (⟨#[]⟩, 20))

theorem catsP_bound {l : List Int} : ∀ {last : Int}, catsP last l = true → ∀ c ∈ l, last < c ∧ c ≤ 2147483647 := by
  induction l with
  | nil => intro last _ c hc; cases hc
  | cons a r ih =>
    intro last h c hc
    unfold catsP at h
    split at h
    · cases h
    · split at h
      · cases h
      · rcases List.mem_cons.1 hc with rfl | hc
        · omega
        · have := ih h c hc; omega
theorem encTail_len (l : List Int) : ∀ last, 0 ≤ last → catsP last l = true → (encTail last l).length ≤ 5 * l.length := by
  induction l with
  | nil => intro last _ _; simp [encTail]
  | cons a r ih =>
    intro last h0 h
    have hb := catsP_bound h a (List.mem_cons_self)
    unfold catsP at h
    split at h
    · cases h
    · split at h
      · cases h
      · have h1 := uv_len 4 (a - last) (by have : (128 : Int) ^ (4 + 1) = 34359738368 := by decide
                                           omega)
        have h2 := ih a (by omega) h
        simp only [encTail, List.length_append, List.length_cons]; omega

set_option maxHeartbeats 4000000 in
set_option maxRecDepth 100000 in
theorem bytes_calls (A0_0 : Option Addr) (c0_0 : Nat) (l0_0 : List Int) (A0_1 : Option Addr) (c0_1 : Nat) (l0_1 : List Int) (r1 : ByteArray) (r2 : Int) (w : World) (hr0_0 : Kd.C (Kd.int .i64) w A0_0 l0_0.length l0_0) (hc0_0 : l0_0.length ≤ c0_0) (hr0_1 : Kd.C (Kd.int .i64) w A0_1 l0_1.length l0_1) (hc0_1 : l0_1.length ≤ c0_1) (h : bytesF l0_0 l0_1 = some (r1, r2)) :
    Calls Try.prog 24 #[.agg #[.slice A0_0 l0_0.length c0_0, .slice A0_1 l0_1.length c0_1]] w fun e w' => e = .returned (.tuple #[.string r1, .int .i64 r2]) ∧ Below w.heap.size w w' := by
  have hu25 := Try.underlying25
  have HR0 := Aside0.mk hr0_0
  have HR1 := Aside0.mk hr0_1
  have HC := Aside0.mk (check_eq l0_0 l0_1 65 (by omega))
  clear hr0_0 hr0_1
  unfold bytesF at h
  cases hok : okL l0_0 l0_1 with
  | false =>
    rw [hok] at h HC
    simp only [Option.some.injEq, Prod.mk.injEq, if_neg (show ¬ (false = true) by decide)] at h HC
    obtain ⟨rfl, rfl⟩ := h
    clear hok
    go_enter Try.func24, Try.ntmps24
    go_wp2_with (go_at_call 37; refine (label_Check.calls 65 _ _ l0_0 _ _ l0_1 20 _ (Kd.C_alloc HR0.out _) hc0_0 (Kd.C_alloc HR1.out _) hc0_1 HC.out).mono ?_; rintro e w1 ⟨rfl, hb⟩)
    go_ret2
    exact ⟨rfl, below_step (below_alloc (Below.refl _ _) _) hb⟩
  | true =>
    rw [hok] at h HC
    simp only [Option.some.injEq, Prod.mk.injEq, if_true] at h HC
    obtain ⟨rfl, rfl⟩ := h
    have HOK := Aside0.mk hok
    clear hok
    go_enter Try.func24, Try.ntmps24
    go_wp2_with (go_at_call 37; refine (label_Check.calls 65 _ _ l0_0 _ _ l0_1 0 _ (Kd.C_alloc HR0.out _) hc0_0 (Kd.C_alloc HR1.out _) hc0_1 HC.out).mono ?_; rintro e w1 ⟨rfl, hb⟩; have HB := Aside0.mk (below_step (below_alloc (Below.refl _ _) _) hb); have q0 : w1.cell? ⟨w.heap.size, 0, none⟩ = some (.slice A0_0 l0_0.length c0_0) := (hb.cell (by simp)).trans (by simp); have q1 : w1.cell? ⟨w.heap.size, 1, none⟩ = some (.slice A0_1 l0_1.length c0_1) := (hb.cell (by simp)).trans (by simp); clear hb)
    have F2 : Aside0 (([l0_0, l0_1] : List (List Int)).flatMap encSet = encSet l0_0 ++ encSet l0_1) := ⟨by simp⟩
    have L2 : ∀ (i : Nat) (w' : World), i < 2 → w'.heap[w1.heap.size]? = some (.cells #[.slice A0_0 l0_0.length c0_0, .slice A0_1 l0_1.length c0_1] 23 (0, 0)) → ∃ A c l, w'.cell? ⟨w1.heap.size, i, none⟩ = some (.slice A l.length c) ∧ Kd.C (Kd.int .i64) w A l.length l ∧ ([l0_0, l0_1] : List (List Int)).drop i = l :: ([l0_0, l0_1] : List (List Int)).drop (i + 1) ∧ l.length ≤ 64 ∧ catsP 0 l = true := by
      intro i w' hi hg
      have hk := HOK.out
      simp only [okL, Bool.and_eq_true, decide_eq_true_eq] at hk
      rcases i with _ | _ | i
      · exact ⟨A0_0, c0_0, l0_0, by rw [World.cell?]; simp [hg], HR0.out, rfl, by omega, hk.1.2⟩
      · exact ⟨A0_1, c0_1, l0_1, by rw [World.cell?]; simp [hg], HR1.out, rfl, by omega, hk.2⟩
      · omega
    have HL2 := Aside0.mk L2
    clear L2
    have HG1 := Aside0.mk (show (w1.alloc (.cells #[.slice A0_0 l0_0.length c0_0, .slice A0_1 l0_1.length c0_1] 23)).heap[w1.heap.size]? = some (.cells #[.slice A0_0 l0_0.length c0_0, .slice A0_1 l0_1.length c0_1] 23 (0, 0)) from heap_alloc_new w1 _)
    have HS1 := Aside0.mk (below_size HB.out)
    clear q0 q1
    go_loopg [5, 22] 3 (fun kq v5 v22 w' => ∃ (x5 : List Int) (i : Nat), v22 = .int .i64 (i : Int) ∧ Aside0 (kq + i = 3) ∧ Aside0 (i ≤ 2) ∧ Aside0 (x5 ++ (([l0_0, l0_1] : List (List Int)).drop i).flatMap encSet = encSet l0_0 ++ encSet l0_1) ∧ Aside0 (x5.length ≤ 400 * i) ∧ Aside0 (Kd.R (Kd.int .u8) 5 w' w.heap.size (fun k => k ≠ w1.heap.size) v5 x5) ∧ Aside0 (w'.heap[w1.heap.size]? = some (.cells #[.slice A0_0 l0_0.length c0_0, .slice A0_1 l0_1.length c0_1] 23 (0, 0))) ∧ Aside0 (Below w.heap.size w w'))
    case atStart => exact ⟨[], 0, rfl, ⟨rfl⟩, ⟨by omega⟩, ⟨F2.out⟩, ⟨by simp⟩, ⟨Kd.R_nil _ _ _ _ _⟩, HG1, ⟨below_alloc HB.out _⟩⟩
    case round =>
      clear HG1 HB
      obtain ⟨x5, i, rfl, HK, HI, HX, HL, HO, HG, HB⟩ := hrel
      obtain ⟨k1, rfl⟩ : ∃ k1, gk = k1 + 1 := ⟨gk - 1, by have := HK.out; have := HI.out; omega⟩
      by_cases hi : i < 2
      · obtain ⟨A, c, l, hcell, hC, hd, hl, hcat⟩ := HL2.out i wr hi HG.out
        have HCat := Aside0.mk hcat
        have HCL := Aside0.mk hC
        have HD := Aside0.mk hd
        have hi0 : decide ((i : Int) < 2) = true := decide_eq_true (by omega)
        have hi1 : 0 ≤ (i : Int) := by omega
        have hi2 : (i : Int) < 2 := by omega
        have HCnt := Aside0.mk (count_eq 0 x5 (l.length : Int) 1 (by simp; omega) (by omega) (by have := HL.out; omega))
        clear hcat hC hd
        obtain ⟨Ao, co, eo⟩ := Kd.R_slice HO.out
        subst eo
        go_wp2_with (go_at_call 42; refine (label_count.calls 1 (fun k => some k = (.slice Ao x5.length co : Value).ownBlock) (.slice Ao x5.length co) x5 (l.length : Int) (x5 ++ uv l.length) w _ HB.out (Kd.R_tight rfl HO.out) HCnt.out).mono ?_; rintro e w2 ⟨v2, rfl, ho, hb, hk⟩; have HG2 := Aside0.mk (kept_block HG.out hk (fun e_ => (HO.out.1 _ e_.symm) rfl)); have HO2 := Aside0.mk (Kd.R_mono (ok' := fun k => k ≠ w1.heap.size) ho (fun k h_ => h_.elim (fun e_ => HO.out.1 _ e_.symm) (fun h2_ => by have := lt_of_block HG.out; omega))); have HB2 := Aside0.mk hb; clear ho hb hk)
        have HF := Aside0.mk (show (x5 ++ uv l.length) ++ encTail 0 (l.drop 0) ++ (([l0_0, l0_1] : List (List Int)).drop (i + 1)).flatMap encSet = encSet l0_0 ++ encSet l0_1 from by rw [← HX.out, HD.out, List.flatMap_cons]; simp [encSet])
        have HLu := Aside0.mk (uv_len 0 (l.length : Int) (by simp; omega))
        go_loopg [5, 8, 32] (l.length + 1) (fun kr v5 v8 v32 w' => ∃ (x6 : List Int) (x8 : Int) (j : Nat), v8 = .int .i64 x8 ∧ v32 = .int .i64 (j : Int) ∧ Aside0 (kr + j = l.length + 1) ∧ Aside0 (j ≤ l.length) ∧ Aside0 (0 ≤ x8 ∧ x8 ≤ 2147483647 ∧ catsP x8 (l.drop j) = true) ∧ Aside0 (x6 ++ encTail x8 (l.drop j) ++ (([l0_0, l0_1] : List (List Int)).drop (i + 1)).flatMap encSet = encSet l0_0 ++ encSet l0_1) ∧ Aside0 (x6.length ≤ x5.length + 1 + 5 * j) ∧ Aside0 (Kd.R (Kd.int .u8) 5 w' w.heap.size (fun k => k ≠ w1.heap.size) v5 x6) ∧ Aside0 (w'.heap[w1.heap.size]? = some (.cells #[.slice A0_0 l0_0.length c0_0, .slice A0_1 l0_1.length c0_1] 23 (0, 0))) ∧ Aside0 (Below w.heap.size w w'))
        case atStart => exact ⟨x5 ++ uv l.length, 0, 0, rfl, rfl, ⟨by omega⟩, ⟨by omega⟩, ⟨by omega, by omega, HCat.out⟩, HF, ⟨by have := HLu.out; simp; omega⟩, HO2, HG2, HB2⟩
        case round =>
          clear HF HO2 HG2 HB2 HB HG
          obtain ⟨x6, x8, j, rfl, rfl, HJ, HJl, HCt, HX6, HL6, HO6, HG, HB⟩ := hrel
          by_cases hj : j < l.length
          · have hj0 : decide ((j : Int) < (l.length : Int)) = true := decide_eq_true (by omega)
            have hj1 : decide (j < l.length) = true := decide_eq_true hj
            have hj2 : 0 ≤ (j : Int) := by omega
            obtain ⟨ad, rfl, hx0⟩ := Kd.at_int HCL.out (j : Int) (by omega) (by omega)
            replace hx0 := (HB.out.cell (World.block_lt_of_cell? w _ hx0)).trans hx0
            have hdj := List.drop_eq_getElem_cons hj
            have hrd : rd l j = l[j] := by simp [rd, List.getD_eq_getElem?_getD, List.getElem?_eq_getElem hj]
            rw [hrd] at hx0
            simp only [Int.toNat_natCast] at hx0
            have hct := HCt.out
            rw [hdj] at hct
            have hcb := catsP_bound hct.2.2 l[j] (List.mem_cons_self)
            have HCn := Aside0.mk (count_eq 4 x6 (l[j] - x8) 5 (by have : (128 : Int) ^ (4 + 1) = 34359738368 := by decide
                                                                   omega) (by omega) (by have := HL6.out; have := HL.out; omega))
            have HUl := Aside0.mk (uv_len 4 (l[j] - x8) (by have : (128 : Int) ^ (4 + 1) = 34359738368 := by decide
                                                            omega))
            have HDJ := Aside0.mk hdj
            have HCT := Aside0.mk hct
            have HCB := Aside0.mk hcb
            obtain ⟨hb1, hb2⟩ := hcb
            have hb3 : x8 ≤ 2147483647 := hct.2.1
            have hb4 : 0 ≤ x8 := hct.1
            clear hdj hct hrd
            obtain ⟨Ap, cp, ep⟩ := Kd.R_slice HO6.out
            subst ep
            generalize hcj : l[j] = cj at *
            clear hcj
            go_wp2_with (go_at_call 42; refine (label_count.calls 5 (fun k => some k = (.slice Ap x6.length cp : Value).ownBlock) (.slice Ap x6.length cp) x6 (cj - x8) (x6 ++ uv (cj - x8)) w _ HB.out (Kd.R_tight rfl HO6.out) HCn.out).mono ?_; rintro e w2 ⟨v2, rfl, ho, hb, hk⟩; have HG2 := Aside0.mk (kept_block HG.out hk (fun e_ => (HO6.out.1 _ e_.symm) rfl)); have HO2 := Aside0.mk (Kd.R_mono (ok' := fun k => k ≠ w1.heap.size) ho (fun k h_ => h_.elim (fun e_ => HO6.out.1 _ e_.symm) (fun h2_ => by have := lt_of_block HG.out; omega))); have HB2 := Aside0.mk hb; clear ho hb hk)
            go_roundg (gk - 1)
            case measure => have := HJ.out; omega
            case rel => exact ⟨x6 ++ uv (cj - x8), cj, j + 1, rfl, by go_num, ⟨by have := HJ.out; omega⟩, ⟨by omega⟩, ⟨by omega, HCB.out.2, by have h_ := HCT.out.2.2; unfold catsP at h_; rw [if_neg (by omega), if_neg (by omega)] at h_; exact h_⟩, ⟨by rw [← HX6.out, HDJ.out]; simp [encTail]⟩, ⟨by have := HL6.out; have := HUl.out; simp; omega⟩, HO2, HG2, HB2⟩
          · have hj0 : decide ((j : Int) < (l.length : Int)) = false := decide_eq_false (by omega)
            have hj1 : decide (j < l.length) = false := decide_eq_false hj
            go_wp2
            go_roundg k1
            case measure => omega
            case rel =>
              have hdl : l.drop j = [] := List.drop_of_length_le (by omega)
              exact ⟨x6, i + 1, by go_num, ⟨by have := HK.out; omega⟩, ⟨by omega⟩, ⟨by rw [← HX6.out, hdl]; simp [encTail]⟩, ⟨by have := HL6.out; have := HL.out; have := HJl.out; omega⟩, HO6, HG, HB⟩
      · have hi0 : decide ((i : Int) < 2) = false := decide_eq_false (by omega)
        have hX := HX.out
        rw [List.drop_of_length_le (by simp; omega), List.flatMap_nil, List.append_nil] at hX
        have hcv := own_string (P := Try.prog) Try.underlying50 Try.underlying5 Try.underlying9 (Kd.own_of_R HO.out)
        rw [hX] at hcv
        clear hX
        go_wp2
        go_ret2
        exact ⟨rfl, HB.out⟩
end Go.Proofs.Ythphoifaingbkaa.LabelB
