/- SetPlays: the state of the play, and what each call makes of it. -/
import Derived.Test.YtpidbaaojgdpmaaSetObj2
import Derived.Test.YtpidbaaojgdpmaaSemSet
import Derived.Test.YtpidbaaojgdpmaaPureSetMixes
namespace Go.Proofs.Ytpidbaaojgdpmaa.SetW
open Go.RowKit Go.Sort Go.Proofs.YtpidbaaojgdpmaaW.PrintWords Go.Proofs.YtpidbaaojgdpmaaW.PrintMore Go.Proofs.YtpidbaaojgdpmaaW.PrintLast Go.Proofs.Ytpidbaaojgdpmaa.SetF Go.Proofs.Ytpidbaaojgdpmaa.OwnPut
set_option linter.unusedVariables false
set_option linter.unusedSimpArgs false
def foot (g : Nat) (v : Value) (k : Nat) : Prop := k = g ∨ some k = v.ownBlock
def cfoot (cp : Option (Nat × Value)) (k : Nat) : Prop := ∃ gc vc, cp = some (gc, vc) ∧ foot gc vc k
def cptr (cp : Option (Nat × Value)) : Option Addr := cp.map fun x => ⟨x.1, 0, none⟩
/-- The play: the set's object holds ls; a row reads l; perhaps a copy's object and a row, of old. -/
structure Play (w0 W : World) (room g : Nat) (v : Value) (ls : List Int) (A : Option Addr) (c : Nat) (l : List Int) (cp : Option (Nat × Value)) (A8 : Option Addr) (c8 : Nat) (old : List Int) : Prop where
  below : Below w0.heap.size w0 W
  set : SetAt W w0.heap.size g room v ls
  gbase : w0.heap.size ≤ g
  copy : ∀ gc vc, cp = some (gc, vc) → SetAt W w0.heap.size gc room vc old ∧ w0.heap.size ≤ gc ∧ ∀ k, foot gc vc k → ¬ foot g v k
  row : RowIn W (fun k => ¬ foot g v k ∧ ¬ cfoot cp k) A c l
  orow : RowIn W (fun k => ¬ foot g v k ∧ ¬ cfoot cp k) A8 c8 old
  short : l.length ≤ 64 ∧ old.length ≤ 64
section
variable {w0 W W' : World} {room g : Nat} {v : Value} {ls l : List Int} {A : Option Addr} {c : Nat} {cp : Option (Nat × Value)} {A8 : Option Addr} {c8 : Nat} {old : List Int}
theorem SetAt.lt (h : SetAt W w0.heap.size g room v ls) {k : Nat} (hk : foot g v k) : k < W.heap.size := by
  rcases hk with rfl | hk
  · exact blk_lt h.box
  · rcases h.row.2 with ⟨rfl, _⟩ | ⟨g', cap, cur, rfl, _, hg, _⟩
    · simp [Value.ownBlock] at hk
    · have e : k = g' := Option.some.inj hk
      rw [e]; exact blk_lt hg
theorem SetAt.ge (h : SetAt W w0.heap.size g room v ls) (hg : w0.heap.size ≤ g) {k : Nat} (hk : foot g v k) : w0.heap.size ≤ k := by
  rcases hk with rfl | hk
  · exact hg
  · exact own_base h.row k hk.symm
theorem Play.step (h : Play w0 W room g v ls A c l cp A8 c8 old) (hb : Below W.heap.size W W') : Play w0 W' room g v ls A c l cp A8 c8 old := by
  have m := Mod.of_below hb (fun _ => False)
  exact ⟨below_step h.below hb, h.set.mod m (fun h => h) (fun _ _ h => h), h.gbase, fun gc vc e => ⟨(h.copy gc vc e).1.mod m (fun h => h) (fun _ _ h => h), (h.copy gc vc e).2⟩, h.row.mod m (fun _ _ h => h), h.orow.mod m (fun _ _ h => h), h.short⟩
/-- The set's own blocks have been turned. -/
theorem Play.turn (h : Play w0 W room g v ls A c l cp A8 c8 old) {v' : Value} {ls' : List Int} (hs : SetAt W' w0.heap.size g room v' ls') (hu : Upd W W' g v.ownBlock) (hat : v'.ownBlock = v.ownBlock ∨ ∃ b, v'.ownBlock = some b ∧ W.heap.size ≤ b) : Play w0 W' room g v' ls' A c l cp A8 c8 old := by
  have m : Mod W W' (foot g v) := Mod.of_upd hu
  have hf : ∀ k, k < W.heap.size → foot g v' k → foot g v k := by
    intro k hk hf
    rcases hf with e | e
    · exact .inl e
    · rcases hat with e2 | ⟨b, e2, hb⟩
      · exact .inr (e.trans e2)
      · rw [e2] at e
        have := Option.some.inj e
        omega
  have hr : ∀ {A : Option Addr} {c : Nat} {l : List Int}, RowIn W (fun k => ¬ foot g v k ∧ ¬ cfoot cp k) A c l → RowIn W' (fun k => ¬ foot g v' k ∧ ¬ cfoot cp k) A c l := by
    intro A c l hrow
    have h1 := hrow.mod m (fun k hk => hk.1)
    refine ⟨h1.cap, h1.C, fun hp a ha => ⟨⟨fun h2 => (hrow.foot hp a ha).1.1 (hf _ (hrow.foot hp a ha).2 h2), (hrow.foot hp a ha).1.2⟩, (h1.foot hp a ha).2⟩⟩
  refine ⟨below_mod h.below m (fun k hk => h.set.ge h.gbase hk), hs, h.gbase, fun gc vc e => ?_, hr h.row, hr h.orow, h.short⟩
  obtain ⟨h1, h2, h3⟩ := h.copy gc vc e
  refine ⟨h1.mod m (fun hk => h3 gc (.inl rfl) hk) (fun k hk hf => h3 k (.inr hk.symm) hf), h2, fun k hk hf2 => h3 k hk (hf k (h1.lt hk) hf2)⟩
/-- A new row in the place of l. -/
theorem Play.relist (h : Play w0 W room g v ls A c l cp A8 c8 old) (hb : Below W.heap.size W W') {u : Value} {l' : List Int} (hR : Kd.R (Kd.int .i64) 3 W' W.heap.size (fun _ => True) u l') (hl : l'.length ≤ 64) : ∃ A' c', u = .slice A' l'.length c' ∧ Play w0 W' room g v ls A' c' l' cp A8 c8 old := by
  have hs := h.step hb
  obtain ⟨A', c', e, hr⟩ := RowIn.fresh (ok := fun k => ¬ foot g v k ∧ ¬ cfoot cp k) hR (fun k hk => ⟨fun hf => by have := h.set.lt hf; omega, fun ⟨gc, vc, e, hf⟩ => by have := (h.copy gc vc e).1.lt hf; omega⟩)
  exact ⟨A', c', e, hs.below, hs.set, hs.gbase, hs.copy, hr, hs.orow, hl, hs.short.2⟩
theorem addP (h : Play w0 W room g v ls A c l cp A8 c8 old) (x : Int) : Calls Try.prog 31 #[.pointer (some ⟨g, 0, none⟩), .int .i64 x] W fun e W' => ∃ v', e = .returned (.int .i64 (addL room ls x).1) ∧ Play w0 W' room g v' (addL room ls x).2 A c l cp A8 c8 old := by
  refine (add_calls W w0.heap.size g room v ls x h.set (h.below.size)).mono ?_
  rintro e W' ⟨v', he, hs, hu, hat⟩
  exact ⟨v', he, h.turn hs hu hat⟩
theorem delP (h : Play w0 W room g v ls A c l cp A8 c8 old) (x : Int) : Calls Try.prog 32 #[.pointer (some ⟨g, 0, none⟩), .int .i64 x] W fun e W' => ∃ v', e = .returned (.int .i64 (if x ∈ ls then 0 else 3)) ∧ Play w0 W' room g v' (if x ∈ ls then dropL ls x else ls) A c l cp A8 c8 old := by
  refine (del_calls W w0.heap.size g room v ls x h.set).mono ?_
  rintro e W' ⟨v', he, hs, hu, hat⟩
  exact ⟨v', he, h.turn hs hu (.inl hat)⟩
theorem hasRP (h : Play w0 W room g v ls A c l cp A8 c8 old) (x : Int) : Calls Try.prog 21 #[.slice A l.length c, .int .i64 x] W fun e W' => e = .returned (.bool (decide (x ∈ l))) ∧ Below W.heap.size W W' := by
  obtain ⟨k, hk⟩ := (SemM.has_ev l x (by have := h.short; omega)).rounds
  exact (PM.cloisterref01_Has.calls k A c l x _ W h.row.C h.row.cap hk).mono fun e W' ⟨he, hd⟩ => ⟨he, hd.below⟩
theorem lit_at (W : World) (x : Int) : Kd.C (Kd.int .i64) (W.alloc (.cells #[.int .i64 x] 3)) (some ⟨W.heap.size, 0, none⟩) 1 [x] := C_lit _ _ [x] (by simp) (heap_alloc_new W _)
theorem joinRP (h : Play w0 W room g v ls A c l cp A8 c8 old) (x : Int) (hl : (joinL l [x]).length ≤ 64) : Calls Try.prog 17 #[.slice A l.length c, .slice (some ⟨W.heap.size, 0, none⟩) 1 1] (W.alloc (.cells #[.int .i64 x] 3)) fun e W' => ∃ A' c', e = .returned (.slice A' (joinL l [x]).length c') ∧ Play w0 W' room g v ls A' c' (joinL l [x]) cp A8 c8 old := by
  obtain ⟨k, hk⟩ := (SemM.join_ev l [x] (by have := h.short; simp; omega)).rounds
  have h1 := h.step (W' := W.alloc (.cells #[.int .i64 x] 3)) (below_alloc (Below.refl _ _) _)
  refine (PM.cloisterref01_Join.calls k A c l (some ⟨W.heap.size, 0, none⟩) 1 [x] _ _ h1.row.C h1.row.cap (lit_at W x) (Nat.le_refl 1) hk).mono ?_
  rintro e W' ⟨u, rfl, hR, hb⟩
  obtain ⟨A', c', rfl, hp⟩ := h1.relist hb hR hl
  exact ⟨A', c', rfl, hp⟩
theorem lessRP (h : Play w0 W room g v ls A c l cp A8 c8 old) (x : Int) : Calls Try.prog 19 #[.slice A l.length c, .slice (some ⟨W.heap.size, 0, none⟩) 1 1] (W.alloc (.cells #[.int .i64 x] 3)) fun e W' => ∃ A' c', e = .returned (.slice A' (keptL l [x] false).length c') ∧ Play w0 W' room g v ls A' c' (keptL l [x] false) cp A8 c8 old := by
  obtain ⟨k, hk⟩ := (SemM.less_ev l [x] (by have := h.short; omega) (by simp)).rounds
  have h1 := h.step (W' := W.alloc (.cells #[.int .i64 x] 3)) (below_alloc (Below.refl _ _) _)
  refine (PM.cloisterref01_Less.calls k A c l (some ⟨W.heap.size, 0, none⟩) 1 [x] _ _ h1.row.C h1.row.cap (lit_at W x) (Nat.le_refl 1) hk).mono ?_
  rintro e W' ⟨u, rfl, hR, hb⟩
  obtain ⟨A', c', rfl, hp⟩ := h1.relist hb hR (Nat.le_trans (kept_len _ _ _) h.short.1)
  exact ⟨A', c', rfl, hp⟩
theorem copyP (h : Play w0 W room g v l A c l cp A8 c8 old) : Calls Try.prog 33 #[.pointer (some ⟨g, 0, none⟩)] W fun e W' => ∃ gc vc, e = .returned (.pointer (some ⟨gc, 0, none⟩)) ∧ Play w0 W' room g v l A c l (some (gc, vc)) A c l := by
  refine (copy_calls W w0.heap.size g room v l h.set).mono ?_
  rintro e W' ⟨gc, vc, he, hs, hgc, hb⟩
  have h1 := h.step hb
  have hz := h.below.size
  have hge : ∀ k, foot gc vc k → W.heap.size ≤ k := fun k hk => hs.ge hgc hk
  have hr : RowIn W' (fun k => ¬ foot g v k ∧ ¬ cfoot (some (gc, vc)) k) A c l := by
    refine ⟨h1.row.cap, h1.row.C, fun hp a ha => ⟨⟨(h1.row.foot hp a ha).1.1, fun ⟨gc', vc', e, hf⟩ => ?_⟩, (h1.row.foot hp a ha).2⟩⟩
    obtain ⟨rfl, rfl⟩ : gc = gc' ∧ vc = vc' := by
      have := Option.some.inj e
      exact ⟨congrArg Prod.fst this, congrArg Prod.snd this⟩
    have := hge _ hf
    have := (h.row.foot hp a ha).2
    omega
  refine ⟨gc, vc, he, h1.below, h1.set, h1.gbase, fun gc' vc' e => ?_, hr, hr, h.short.1, h.short.1⟩
  obtain ⟨rfl, rfl⟩ : gc = gc' ∧ vc = vc' := by
    have := Option.some.inj e
    exact ⟨congrArg Prod.fst this, congrArg Prod.snd this⟩
  refine ⟨⟨hs.box, own_less hs.row hz, hs.rises, hs.fits, hs.room0, hs.room1⟩, Nat.le_trans hz hgc, fun k hk hf => ?_⟩
  have := hge k hk
  have := h.set.lt hf
  omega
theorem lenP (h : Play w0 W room g v ls A c l cp A8 c8 old) : Calls Try.prog 35 #[.pointer (some ⟨g, 0, none⟩)] W fun e W' => e = .returned (.int .i64 (ls.length : Int)) ∧ W = W' := len_calls W _ g room v ls h.set
theorem hasP (h : Play w0 W room g v ls A c l cp A8 c8 old) (x : Int) : Calls Try.prog 36 #[.pointer (some ⟨g, 0, none⟩), .int .i64 x] W fun e W' => e = .returned (.bool (decide (x ∈ ls))) ∧ W = W' := hasM_calls W _ g room v ls x h.set
/-- A list of the set's, read on. -/
def ListPost (W : World) (l : List Int) (e : Ending) (W' : World) : Prop := ∃ A c, e = .returned (.slice A l.length c) ∧ Kd.R (Kd.int .i64) 3 W' W.heap.size (fun _ => True) (.slice A l.length c) l ∧ Below W.heap.size W W'
theorem ListPost.of {e : Ending} (h : SlicePost W l e W') : ListPost W l e W' := by
  obtain ⟨u, he, hR, hb⟩ := h
  obtain ⟨A, c, rfl⟩ := Kd.R_slice hR
  exact ⟨A, c, he, hR, hb⟩
theorem listP (h : Play w0 W room g v ls A c l cp A8 c8 old) : Calls Try.prog 34 #[.pointer (some ⟨g, 0, none⟩)] W (ListPost W ls) := (list_calls W _ g room v ls h.set).mono fun _ _ => ListPost.of
theorem listC {gc : Nat} {vc : Value} (h : Play w0 W room g v ls A c l (some (gc, vc)) A8 c8 old) : Calls Try.prog 34 #[.pointer (some ⟨gc, 0, none⟩)] W (ListPost W old) := (list_calls W _ gc room vc old (h.copy gc vc rfl).1).mono fun _ _ => ListPost.of
theorem sameP {A0 A1 : Option Addr} {c0 c1 : Nat} {x : List Int} (h0 : Kd.C (Kd.int .i64) W A0 x.length x) (hc0 : x.length ≤ c0) (h1 : Kd.C (Kd.int .i64) W A1 x.length x) (hc1 : x.length ≤ c1) (hb : x.length ≤ 64) : Calls Try.prog 9 #[.slice A0 x.length c0, .slice A1 x.length c1] W fun e w' => e = .returned (.bool true) ∧ Below W.heap.size W w' :=
  (same_calls A0 c0 x A1 c1 x W h0 hc0 h1 hc1 (by omega)).mono fun e w' ⟨he, hd⟩ => ⟨by rw [he]; simp, hd⟩
/-- spoil of a row that was made behind W0: W0's blocks stay. -/
theorem spoilP {W0 W : World} {u : Value} {x : List Int} (hB : Below W0.heap.size W0 W) (hR : Kd.R (Kd.int .i64) 3 W W0.heap.size (fun _ => True) u x) (hx : x.length ≤ 64) : Calls Try.prog 23 #[u] W fun e W' => e = .returned (.tuple #[]) ∧ Below W0.heap.size W0 W' := by
  obtain ⟨k, hk⟩ := (SemM.spoil_ev x (by omega)).rounds
  exact (PM.cloisterlaw01_spoil.calls k (fun _ => True) u x W0 W hB hR hk).mono fun e W' ⟨he, hb, _⟩ => ⟨he, hb⟩
end
end Go.Proofs.Ytpidbaaojgdpmaa.SetW
