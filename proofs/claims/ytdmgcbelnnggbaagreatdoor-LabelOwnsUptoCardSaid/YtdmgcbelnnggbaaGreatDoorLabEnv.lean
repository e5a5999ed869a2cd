/- What the row's listed variables give the walks: cells of the library's variables that Atoi, Itoa, Split and Cut read. -/
import Derived.Test.YtdmgcbelnnggbaaGreatDoorCards
import Derived.Test.YtdmgcbelnnggbaaGreatDoorShelf
import Derived.Test.YtdmgcbelnnggbaaGreatDoorWWords
import Derived.Lib.LaidTab
import Derived.Lib.LaidU8
import Derived.LaidLaws
import Derived.Shelf.Vars
import Derived.WalkSmall
import Derived.Lay
import Derived.MakeChecks
namespace Go.Proofs.YtdmgcbelnnggbaaGreatDoor.LabW
open Go.RowKit Go.Lib Go.Proofs.YtdmgcbelnnggbaaGreatDoorW.PrintWords
set_option linter.unusedVariables false
structure Env (W : World) : Prop where
  mx : ∃ m, W.cell? ⟨0, 0, none⟩ = some (.int .i64 m)
  syn : ∃ tp p, W.cell? ⟨1, 0, none⟩ = some (.iface tp p)
  rng : ∃ tp p, W.cell? ⟨2, 0, none⟩ = some (.iface tp p)
  tab : Lib.TabIs Tryz.prog W "internal/strconv.uint64pow10" .u64 Lib.pow10Tab
  size : 3 < W.heap.size
theorem gTab : Tryz.prog.globalNamed "internal/strconv.uint64pow10" = some 3 := by kernel_rfl
theorem Env.below {W W' : World} (h : Env W) (hb : Below W.heap.size W W') : Env W' := by
  obtain ⟨m, hm⟩ := h.mx
  obtain ⟨t1, p1, h1⟩ := h.syn
  obtain ⟨t2, p2, h2⟩ := h.rng
  exact ⟨⟨m, (hb.cell (World.block_lt_of_cell? W _ hm)).trans hm⟩, ⟨t1, p1, (hb.cell (World.block_lt_of_cell? W _ h1)).trans h1⟩, ⟨t2, p2, (hb.cell (World.block_lt_of_cell? W _ h2)).trans h2⟩, var?_below hb gTab h.size h.tab, Nat.lt_of_lt_of_le h.size hb.size⟩
theorem err_var {W : World} {name : String} {g : Nat} {bs : List UInt8} {tname : String} {t : TypeId} {ms : Array (String × TypeId)} (hg : Tryz.prog.globalNamed name = some g) (ht : (Tryz.prog.globals[g]?).map (·.type) = some t) (hu : Tryz.prog.underlying t = some (.interface ms))
    (h : VarReads Tryz.prog W name (.iface tname (.ptr (.agg [.lit (.string bs)])))) : ∃ tp p, W.cell? ⟨g, 0, none⟩ = some (.iface tp p) := by
  obtain ⟨g', t', cs, fuel, p, h1, h2, h3, h4⟩ := h
  obtain rfl := Option.some.inj (hg.symm.trans h1)
  obtain rfl := Option.some.inj (ht.symm.trans h2)
  obtain ⟨_, u, v, hc, _⟩ := iface_of_trod hu h4
  obtain rfl : cs = #[.iface u v] := by cases cs; simp_all
  exact ⟨u, v, by simpa using World.var?_cell hg h3 0⟩
theorem tab_var {W : World} {name : String} {k : IntKind} {zs : List Int} {g : Nat} {t e : TypeId} {n : Nat}
    (hg : Tryz.prog.globalNamed name = some g) (hty : (Tryz.prog.globals[g]?).map (·.type) = some t) (ht : Tryz.prog.underlying t = some (.array n e)) (he : Tryz.prog.underlying e = some (.int k)) (hce : Tryz.prog.cellsOf e = 1) (hct : Tryz.prog.cellsOf t = n)
    (h : VarReads Tryz.prog W name (tabData k zs)) : TabIs Tryz.prog W name k zs := by
  obtain ⟨g', t', cs, fuel, p, h1, h2, h3, h4⟩ := h
  obtain rfl := Option.some.inj (hg.symm.trans h1)
  obtain rfl := Option.some.inj (hty.symm.trans h2)
  unfold TabIs
  rw [h3, ← cells_of_tab ht he hce hct h4]
theorem env_of {W : World} (hsh : W.ShapedOpen Tryz.prog) (hL : laidMetH Tryz.prog Rows.labelOrderRow.laid W) : Env W := by
  rw [MakeChecks.laidMetH_plain _ _ _ (by kernel_rfl)] at hL
  have htab : TabIs Tryz.prog W "internal/strconv.uint64pow10" .u64 pow10Tab := tab_var (t := 149) (e := 124) (n := 20) gTab (by kernel_rfl) (by kernel_rfl) (by kernel_rfl) (by kernel_rfl) (by kernel_rfl) (laidMet.reads hL (.tail _ (.tail _ (.head _))))
  refine ⟨cell_of_shapedOpen_int hsh (g := 0) (t := 3) (zero := #[.int .i64 0]) (by decide +kernel) (by kernel_rfl) (by kernel_rfl) (by kernel_rfl) (by kernel_rfl) (by kernel_rfl), err_var (t := 80) (by kernel_rfl) (by kernel_rfl) Tryz.underlying80 (laidMet.reads hL (.tail _ (.tail _ (.tail _ (.tail _ (.tail _ (.head _))))))), err_var (t := 80) (by kernel_rfl) (by kernel_rfl) Tryz.underlying80 (laidMet.reads hL (.tail _ (.tail _ (.tail _ (.tail _ (.head _)))))), htab, ?_⟩
  exact World.block_lt_of_cell? W _ (htab.cell gTab 0 (by decide))
end Go.Proofs.YtdmgcbelnnggbaaGreatDoor.LabW
