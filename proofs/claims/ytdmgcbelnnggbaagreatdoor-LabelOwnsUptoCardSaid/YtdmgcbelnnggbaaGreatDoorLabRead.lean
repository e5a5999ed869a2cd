/- label.read: a set's text, read. -/
import Derived.Test.YtdmgcbelnnggbaaGreatDoorLabEnv
import Derived.Test.YtdmgcbelnnggbaaGreatDoorHandLit
import Derived.Test.YtdmgcbelnnggbaaGreatDoorSetC2
import Derived.Lib.SplitLaws
import Derived.Lib.AtoiAll
namespace Go.Proofs.YtdmgcbelnnggbaaGreatDoor.LabW
open Go.RowKit Go.Sort Go.Lib Go.Proofs.YtdmgcbelnnggbaaGreatDoorW.PrintWords Go.Proofs.YtdmgcbelnnggbaaGreatDoorW.PrintMore
set_option linter.unusedVariables false
set_option linter.unusedSimpArgs false
theorem below_bytes (w : World) (e : TypeId) (t : ByteArray) : Below w.heap.size w (Lib.bytesWorld w e t) := ⟨rfl, rfl, rfl, by rw [bytesWorld_size]; omega, fun i hi => bytesWorld_at_old w e t i hi⟩
theorem below_grown (w : World) (k : Nat) (os : Array Obj) : Below w.heap.size w (Sort.grow (w.drewN k) os) := OwnPut.below_grow (B := w.heap.size) (w0 := w) (w := w.drewN k) ⟨rfl, rfl, rfl, Nat.le_refl _, fun _ _ => rfl⟩ (Nat.le_refl _) os
theorem atoi_ok (s : ByteArray) (hs : s.size ≤ 140737488355328) (v : Int) (h : Lib.atoiAll s.data.toList = .ok v) (w : World) :
    Calls Tryz.prog 79 #[.string s] w fun e w' => e = .returned (.tuple #[.int .i64 v, .nilIface]) ∧ Below w.heap.size w w' := by
  refine (Tryz.strconv_Atoi_ok s (by omega) v h w).mono ?_
  rintro e w' ⟨he, rfl | ⟨t, rfl⟩⟩
  · exact ⟨he, Below.refl _ _⟩
  · exact ⟨he, below_bytes _ _ _⟩
theorem atoi_bad (s : ByteArray) (hs : s.size ≤ 140737488355328) (h : ∀ v, Lib.atoiAll s.data.toList ≠ .ok v) (w : World) (hE : Env w) :
    Calls Tryz.prog 79 #[.string s] w fun e w' => ∃ n N, e = .returned (.tuple #[.int .i64 n, .iface 111 (.pointer (some ⟨N, 0, none⟩))]) ∧ Below w.heap.size w w' := by
  cases hA : Lib.atoiAll s.data.toList
  · exact absurd hA (h _)
  · obtain ⟨tp, p, hc⟩ := hE.syn
    refine (Tryz.strconv_Atoi_syntax s (by omega) hA _ w hc (.inr ⟨tp, p, rfl⟩)).mono ?_
    rintro e w' ⟨N, he, _, _, hb⟩
    exact ⟨_, N, he, hb⟩
  · obtain ⟨tp, p, hc⟩ := hE.rng
    refine (Tryz.strconv_Atoi_range s (by omega) hA _ w hc (.inr ⟨tp, p, rfl⟩)).mono ?_
    rintro e w' ⟨N, he, _, _, hb⟩
    exact ⟨_, N, he, hb⟩
theorem atoi_range {l : List UInt8} {v : Int} (h : Lib.atoiAll l = .ok v) : -9223372036854775808 ≤ v ∧ v ≤ 9223372036854775807 := by
  unfold atoiAll at h
  split at h
  · cases h
  · dsimp only at h
    split at h
    · cases h
    · cases h
    · split at h
      · cases h
      · split at h
        · cases h
        · injection h with h
          split at h <;> omega
theorem itoa_calls (n : Int) (h0 : -9223372036854775808 ≤ n) (h1 : n ≤ 9223372036854775807) (w : World) (hE : Env w) :
    Calls Tryz.prog 71 #[.int .i64 n] w fun e w' => e = .returned (.string ⟨(Lib.itoa n).toArray⟩) ∧ Below w.heap.size w w' := by
  refine (Tryz.strconv_Itoa n h0 h1 w hE.tab).mono ?_
  rintro e w' ⟨he, k, os, rfl⟩
  exact ⟨he, below_grown w k os⟩
/-- The pieces of a set's text. -/
def pieces (s : ByteArray) : List ByteArray := Lib.splitB ⟨#[44]⟩ 0 (Lib.countB s ⟨#[44]⟩) s
theorem pieces_len (s : ByteArray) : (pieces s).length = Lib.countB s ⟨#[44]⟩ + 1 := splitB_all ⟨#[44]⟩ (by decide) 0 _ s rfl
theorem ext_size (s : ByteArray) (i j : Nat) : (s.extract i j).size ≤ s.size := by rw [ByteArray.size_extract]; omega
theorem split_size (sep : ByteArray) (save : Nat) : ∀ (k : Nat) (s p : ByteArray), p ∈ splitB sep save k s → p.size ≤ s.size
  | 0, s, p, h => by
    rw [splitB_zero] at h
    rw [List.mem_singleton.1 h]; exact Nat.le_refl _
  | k + 1, s, p, h => by
    unfold splitB at h
    split at h
    · rw [List.mem_singleton.1 h]; exact Nat.le_refl _
    · rcases List.mem_cons.1 h with rfl | h
      · exact ext_size _ _ _
      · exact Nat.le_trans (split_size sep save k _ p h) (ext_size _ _ _)
/-- A number's own text. -/
def numOf (p : ByteArray) : Option Int := match Lib.atoiAll p.data.toList with
  | .ok v => if (⟨(Lib.itoa v).toArray⟩ : ByteArray) = p then some v else none
  | _ => none
theorem numOf_ok {p : ByteArray} {v : Int} (h : Lib.atoiAll p.data.toList = .ok v) : numOf p = if (⟨(Lib.itoa v).toArray⟩ : ByteArray) = p then some v else none := by unfold numOf; rw [h]
theorem numOf_bad {p : ByteArray} (h : ∀ v, Lib.atoiAll p.data.toList ≠ .ok v) : numOf p = none := by
  unfold numOf
  split
  · rename_i v hv; exact absurd hv (h v)
  · rfl
def readF (s : ByteArray) : Option (List Int) := if s.size = 0 then some [] else (pieces s).mapM numOf
theorem mapM_take {l : List ByteArray} {k : Nat} {acc : List Int} {v : Int} (hk : k < l.length) (h : (l.take k).mapM numOf = some acc) (hv : numOf l[k] = some v) : (l.take (k + 1)).mapM numOf = some (acc ++ [v]) := by
  rw [List.take_succ_eq_append_getElem hk, List.mapM_append, h]
  simp [hv]
theorem mapM_none {l : List ByteArray} {k : Nat} (hk : k < l.length) (hv : numOf l[k] = none) : l.mapM numOf = none := by
  rw [← List.take_append_drop k l, List.drop_eq_getElem_cons hk, List.mapM_append, List.mapM_cons, hv]
  cases (l.take k).mapM numOf <;> rfl
theorem mapM_len {l : List ByteArray} {acc : List Int} (h : l.mapM numOf = some acc) : acc.length = l.length := by
  induction l generalizing acc with
  | nil => simp at h; subst h; rfl
  | cons p l ih =>
    rw [List.mapM_cons] at h
    cases hp : numOf p with
    | none => rw [hp] at h; cases h
    | some v =>
      rw [hp] at h
      cases hl : l.mapM numOf with
      | none => rw [hl] at h; cases h
      | some m =>
        rw [hl] at h
        have h2 : v :: m = acc := Option.some.inj h
        rw [← h2, List.length_cons, List.length_cons, ih hl]
def ReadPost (w : World) (r : Option (List Int)) (e : Ending) (w' : World) : Prop :=
  match r with
  | some l => ∃ v, e = .returned (.tuple #[v, .bool true]) ∧ Kd.R (Kd.int .i64) 3 w' w.heap.size (fun _ => True) v l ∧ Below w.heap.size w w'
  | none => e = .returned (.tuple #[.slice none 0 0, .bool false]) ∧ Below w.heap.size w w'
theorem info_int : (Tryz.prog.info? 3).map (fun i => (i.zero, i.size, i.bytes)) = some (some (.int .i64 0), 1, 8) := by kernel_rfl
set_option maxHeartbeats 4000000 in
set_option maxRecDepth 100000 in
theorem read_calls (s : ByteArray) (hs : s.size ≤ 1048576) (w : World) (hE : Env w) :
    Calls Tryz.prog 64 #[.string s] w (ReadPost w (readF s)) := by
  by_cases h0 : s.size = 0
  · obtain rfl : s = ⟨#[]⟩ := by cases s; simp_all [ByteArray.size]
    rw [show readF ⟨#[]⟩ = some [] from rfl]
    clear hE hs h0
    go_enter Tryz.func64, Tryz.ntmps64
    go_wp2
    go_ret2
    exact ⟨_, rfl, Kd.R_nil _ _ _ _ _, Below.refl _ _⟩
  · rw [show readF s = (pieces s).mapM numOf from if_neg h0]
    have hc : countB s ⟨#[44]⟩ ≤ s.size := countB_le ⟨#[44]⟩ (by decide) s.size s (Nat.le_refl _)
    have hl := pieces_len s
    have hne : ¬ s = ⟨#[]⟩ := fun e => h0 (by rw [e]; rfl)
    obtain ⟨m, hm⟩ := hE.mx
    have HS := Aside0.mk (Tryz.strings_Split s ⟨#[44]⟩ m w (by omega) hm (by decide))
    have hW1 := below_alloc (Below.refl w.heap.size w) (.cells ((pieces s).map Value.string).toArray 9)
    have HE := Aside0.mk (hE.below hW1)
    have HB := Aside0.mk hW1
    have HP := Aside0.mk (Hand.lit_texts _ w.heap.size (pieces s) (by omega) (heap_alloc_new w (.cells ((pieces s).map Value.string).toArray 9)))
    have HSz := Aside0.mk (show ∀ p ∈ pieces s, p.size ≤ 1048576 from fun p hp => Nat.le_trans (split_size _ _ _ s p hp) hs)
    have HLn := Aside0.mk (show countB s ⟨#[44]⟩ + 1 ≤ 1048577 from by omega)
    have e1 : s.toList = [] ↔ False := by
      rw [ByteArray.toList_eq]
      refine ⟨fun h => h0 ?_, fun h => h.elim⟩
      have h2 : s.data.size = 0 := by rw [← Array.length_toList, h]; rfl
      exact h2
    have e2 : s.toList.isEmpty = false := by
      cases hh : s.toList with
      | nil => exact (e1.1 hh).elim
      | cons _ _ => rfl
    clear hE hs h0 hc hm hW1
    rw [show (Lib.splitB ⟨#[44]⟩ 0 (Lib.countB s ⟨#[44]⟩) s) = pieces s from rfl] at HS
    generalize pieces s = ps at *
    rw [← hl] at HS HLn
    clear hl hne
    go_enter Tryz.func64, Tryz.ntmps64
    go_wp2_with (go_at_call 78; refine HS.out.mono ?_; rintro e w1 ⟨rfl, rfl⟩)
    generalize hw1 : w.alloc _ = w1 at *
    have hz1 : w.heap.size ≤ w1.heap.size := HB.out.size
    clear hw1 HS
    go_loopw [4, 14] (fun t4 t14 wr => ∃ (k : Nat) (acc : List Int), k ≤ ps.length ∧ t14 = .int .i64 (k : Int) ∧ (ps.take k).mapM numOf = some acc ∧ Aside0 (Kd.R (Kd.int .i64) 3 wr w1.heap.size (fun _ => True) t4 acc) ∧ Aside0 (Below w1.heap.size w1 wr)) (fun _ i _ => ps.length - (intOf i).toNat)
    case atStart => exact ⟨0, [], Nat.zero_le _, rfl, rfl, ⟨Kd.R_nil _ _ _ _ _⟩, ⟨Below.refl _ _⟩⟩
    case round =>
      obtain ⟨k, acc, hk, rfl, hacc, HR, HW⟩ := hrel
      obtain ⟨A4, c4, e4⟩ := Kd.R_slice HR.out
      subst e4
      by_cases hlt : k < ps.length
      · have i1 : ((k : Int) < (ps.length : Int)) := by omega
        have p63 : (ps.length : Int) ≤ 1048577 := by have := HLn.out; omega
        have HEr := Aside0.mk (HE.out.below HW.out)
        obtain ⟨b, o, eb, _, hcs⟩ := Hand.strings_at HP.out (by omega)
        obtain ⟨rfl, rfl⟩ : w.heap.size = b ∧ 0 = o := by
          have := Option.some.inj eb
          injection this with h1 h2
          exact ⟨h1, h2⟩
        have hcell := hcs k ps[k] (List.getElem?_eq_getElem hlt)
        replace hcell := (HW.out.cell (p := ⟨w.heap.size, 0 + k, none⟩) (World.block_lt_of_cell? w1 _ hcell)).trans hcell
        rw [Nat.zero_add] at hcell
        have hpz : ps[k].size ≤ 140737488355328 := by have := HSz.out ps[k] (List.getElem_mem hlt); omega
        have HNone := Aside0.mk (fun h : numOf ps[k] = none => mapM_none hlt h)
        have HSome := Aside0.mk (fun v (h : numOf ps[k] = some v) => mapM_take hlt hacc h)
        have HK := Aside0.mk hlt
        have HAc := Aside0.mk (show acc.length ≤ ps.length from by have := mapM_len hacc; simp at this; omega)
        clear hacc hcs eb
        generalize ps[k] = p at *
        by_cases hA : ∃ v, Lib.atoiAll p.data.toList = .ok v
        · obtain ⟨v, hv⟩ := hA
          have hr := atoi_range hv
          have HAt := Aside0.mk (fun W => atoi_ok p hpz v hv W)
          have HIt := Aside0.mk (fun W => itoa_calls v hr.1 hr.2 W)
          have hn := numOf_ok hv
          clear hv hpz
          by_cases hq : (⟨(Lib.itoa v).toArray⟩ : ByteArray) = p
          · rw [if_pos hq] at hn
            have HN := Aside0.mk (HSome.out v hn)
            clear hn HNone HSome hr
            rw [hq] at HIt
            clear hq
            go_wp2_with (first
              | (go_at_call 79; refine (HAt.out wr).mono ?_; rintro e w2 ⟨rfl, hb⟩; have nE := Aside0.mk (HEr.out.below hb); have nW := Aside0.mk (below_step HW.out hb); have nR := Aside0.mk (Kd.R_step HR.out (fun k _ hk => hb.block k hk)); clear HEr HW HR hb; have HEr := nE; have HW := nW; have HR := nR; clear nE nW nR)
              | (go_at_call 71; refine (HIt.out w2 HEr.out).mono ?_; rintro e w3 ⟨rfl, hb⟩; have nW := Aside0.mk (below_step HW.out hb); have nR := Aside0.mk (Kd.R_step HR.out (fun k _ hk => hb.block k hk)); clear HEr HW HR hb; have HW := nW; have HR := nR; clear nW nR)
              | (at_builtin; refine Kd.R_append_rows (Kd.int .i64) (w0 := w1) w1.heap.size rfl (.tmp 31) (.tmp 33) 22 3 (.int .i64 0) 8 rfl Tryz.underlying22 info_int rfl (by decide) (by omega) _ acc [v] _ _ _ (fun _ => True) (fun _ => False) rfl rfl (Kd.R_alloc HR.out _) (Hand.lit1 _ v) (fun _ _ h => h) (fun _ h => h.elim) (fun _ _ => trivial) (below_alloc HW.out _) (below_size (below_alloc HW.out _)) (by have := HAc.out; have := HLn.out; omega) ?_; intro v1 w4 ho hb hgb hat; clear hgb hat; have HR2 := Aside0.mk ho; have HB2 := Aside0.mk hb; clear ho hb))
            exact ⟨⟨k + 1, acc ++ [v], by have := HK.out; omega, by go_num, HN.out, HR2, HB2⟩, by have := HK.out; simp [intOf]; omega⟩
          · rw [if_neg hq] at hn
            have HN := Aside0.mk (HNone.out hn)
            clear hn HNone HSome hr
            have q1 : ¬ (⟨(Lib.itoa v).toArray⟩ : ByteArray).toList = p.toList := fun h => hq (by
              rw [ByteArray.toList_eq, ByteArray.toList_eq] at h
              cases p
              rename_i d
              cases d
              simp_all)
            have q2 : (!(⟨(Lib.itoa v).toArray⟩ : ByteArray).toList == p.toList) = true := by simpa using q1
            generalize (⟨(Lib.itoa v).toArray⟩ : ByteArray) = q at *
            clear hq
            go_wp2_with (first
              | (go_at_call 79; refine (HAt.out wr).mono ?_; rintro e w2 ⟨rfl, hb⟩; have nE := Aside0.mk (HEr.out.below hb); have nW := Aside0.mk (below_step HW.out hb); clear HEr HW HR hb; have HEr := nE; have HW := nW; clear nE nW)
              | (go_at_call 71; refine (HIt.out w2 HEr.out).mono ?_; rintro e w3 ⟨rfl, hb⟩; have nW := Aside0.mk (below_step HW.out hb); clear HEr HW hb; have HW := nW; clear nW))
            go_ret2
            rw [HN.out]
            exact ⟨rfl, below_step HB.out HW.out⟩
        · have hB : ∀ v, Lib.atoiAll p.data.toList ≠ .ok v := fun v hv => hA ⟨v, hv⟩
          have HN := Aside0.mk (HNone.out (numOf_bad hB))
          have HAt := Aside0.mk (fun W => atoi_bad p hpz hB W)
          clear hA hB HNone HSome hpz
          go_wp2_with (go_at_call 79; refine (HAt.out wr HEr.out).mono ?_; rintro e w2 ⟨nn, NN, rfl, hb⟩; have nW := Aside0.mk (below_step HW.out hb); clear HEr HW HR hb; have HW := nW; clear nW)
          go_ret2
          rw [HN.out]
          exact ⟨rfl, below_step HB.out HW.out⟩
      · have i1 : ¬ ((k : Int) < (ps.length : Int)) := by omega
        rw [List.take_of_length_le (by omega)] at hacc
        have HN := Aside0.mk hacc
        clear hacc hlt
        go_wp2
        go_ret2
        rw [HN.out]
        exact ⟨_, rfl, Kd.R_lower HR.out hz1, below_step HB.out HW.out⟩
end Go.Proofs.YtdmgcbelnnggbaaGreatDoor.LabW
