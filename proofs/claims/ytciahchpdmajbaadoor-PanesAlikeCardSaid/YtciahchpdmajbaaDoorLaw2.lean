/- The law PanesAlike over more than 200 panes; what the row's list of variables gives; a world that meets it. -/
import Derived.Test.YtciahchpdmajbaaDoorLaw1
import Derived.Test.YtciahchpdmajbaaDoorRead
import Derived.Test.YtciahchpdmajbaaDoorRows
import Derived.Lib.LaidTab
import Derived.Stop.LaidErr
import Derived.Lay
import Derived.LaidMore
import Derived.MakeChecks
import Derived.ProofKit
import Derived.OpenShut
import Derived.Deep.DeepHandedRow
import Derived.WideKeyArgs
import Derived.Shelf.Vars
namespace Go.Proofs.YtciahchpdmajbaaDoor
open Go.RowKit Go.ChangeShapes Go.WideShapes Go.ChangeAt Go.Deep

set_option maxHeartbeats 1000000 in
set_option maxRecDepth 100000 in
theorem law_big {B : Nat} (A : Option Addr) (n c : Nat) (more : Pn) (w : World) (hlen : 200 < n) (hE : Env B w) :
    Calls Tryd.prog 3 #[.slice A n c, more.val] w fun e w' => e = .returned (.bool true) ∧ Below w.heap.size w w' := by
  have hb0 := (Below.refl _ w).alloc (Nat.le_refl _) (.cells more.cells.toArray 29)
  have HK := hide (known_any _ (hE.on hb0))
  have HB := hide hb0
  have hd : decide ((200 : Int) < (n : Int)) = true := by simp; omega
  clear hE hb0
  go_enter Tryd.func3, Tryd.ntmps3
  go_wp2_with (go_at_call 4; (with_reducible refine (unhide HK).mono ?_); rintro e w1 ⟨rfl, hb1⟩)
  go_ret
  exact ⟨rfl, HB.out.trans (hb1.mono HB.out.size)⟩

theorem law_any {B : Nat} (A : Option Addr) (n c : Nat) (ps : List Pn) (more : Pn) (w : World) (hn : ps.length = n) (hR : Rd w A ps) (hs : ∀ p ∈ ps, p.key.size ≤ maxLen) (hsm : more.key.size ≤ maxLen) (hE : Env B w) :
    Calls Tryd.prog 3 #[.slice A n c, more.val] w fun e w' => e = .returned (.bool true) ∧ Below w.heap.size w w' := by
  rcases Nat.lt_or_ge 200 n with h | h
  · exact law_big A n c more w h hE
  · exact law_small A n c ps more w hn hR h hs hsm hE

theorem own_knob : ownKnob Tryd.prog.godebug = none := by kernel_rfl
theorem g_pow10 : Tryd.prog.globalNamed "internal/strconv.uint64pow10" = some 0 := by kernel_rfl
theorem g_pow10_type : (Tryd.prog.globals[0]?).map (·.type) = some 134 := by kernel_rfl
theorem cells_pow10 : Tryd.prog.cellsOf 134 = 20 := by kernel_rfl
theorem cells_u64 : Tryd.prog.cellsOf 118 = 1 := by kernel_rfl
theorem pow10_datum : (Rows.laid_internal_strconv_uint64pow10 : DataW Unit) = Lib.tabData .u64 Lib.pow10Tab := by kernel_rfl
theorem max_len {W : World} (hsh : W.ShapedOpen Tryd.prog) : ∃ m, W.cell? ⟨3, 0, none⟩ = some (.int .i64 m) :=
  cell_of_shapedOpen_int (P := Tryd.prog) (g := 3) (t := 3) (zero := #[.int .i64 0]) hsh (of_decide_eq_true (by kernel_rfl)) (by kernel_rfl) rfl (by kernel_rfl) (by kernel_rfl) Tryd.underlying3
theorem env_of {W : World} (hL : laidMetH Tryd.prog Rows.panesAlikeRow.laid W) (hsh : W.ShapedOpen Tryd.prog) : Env W.heap.size W := by
  rw [MakeChecks.laidMetH_plain _ _ _ (by kernel_rfl)] at hL
  have h3 := hL.tail.tail
  have htab : Lib.TabIs Tryd.prog W "internal/strconv.uint64pow10" .u64 Lib.pow10Tab := by
    rw [pow10_datum] at h3
    exact Lib.tabIs_of_head g_pow10 g_pow10_type Tryd.underlying134 Tryd.underlying118 cells_u64 cells_pow10 h3
  obtain ⟨m, hm⟩ := max_len hsh
  exact ⟨Lib.tabBelow_of_tabIs htab, Nat.le_refl _, World.block_lt_of_cell? W _ hm, m, hm⟩

/-- The arguments of the witness: no panes, and a pane that is nothing. -/
abbrev wArgs : Array Value := #[.slice none 0 0, .agg #[.string ⟨#[]⟩, .int .i64 0, .int .i64 0, .int .i64 0, .int .i64 0, .int .i64 0, .int .i64 0, .int .i64 0, .int .i64 0]]
theorem w_met (os : Os) : laidMetH Tryd.prog Rows.panesAlikeRow.laid ((World.laidAll Tryd.prog os Rows.panesAlikeRow.laid).forCall (fun _ _ => 0) ⟨#[], wArgs, []⟩).memory := by
  rw [MakeChecks.laidMetH_plain _ _ _ (by kernel_rfl)]
  exact laidMet_laidAll _ (by kernel_rfl) (by kernel_rfl)
theorem w_shaped (os : Os) : ((World.laidAll Tryd.prog os Rows.panesAlikeRow.laid).forCall (fun _ _ => 0) ⟨#[], wArgs, []⟩).Shaped Tryd.prog := World.shaped_of_ZipB (by kernel_rfl) (by kernel_rfl)
theorem w_ok (os : Os) : Input.okWideB Tryd.prog ((World.laidAll Tryd.prog os Rows.panesAlikeRow.laid).forCall (fun _ _ => 0) ⟨#[], wArgs, []⟩) 3 ⟨#[], wArgs, []⟩ = true := by kernel_rfl
theorem w_reads (os : Os) {H : Type} (enc : TypeId × Value → H) : ∃ ds, DataW.whole enc Tryd.prog ((World.laidAll Tryd.prog os Rows.panesAlikeRow.laid).forCall (fun _ _ => 0) ⟨#[], wArgs, []⟩).memory Tryd.f3.params.toList Rows.panesAlikeSpec.vars false wArgs.toList 8 = some (ds, [], []) :=
  ⟨[.nil, .agg [.lit (.string []), .agg [.lit (.int .i64 0), .lit (.int .i64 0)], .lit (.int .i64 0), .lit (.int .i64 0), .agg [.lit (.int .i64 0), .lit (.int .i64 0), .lit (.int .i64 0), .lit (.int .i64 0)]]], by kernel_rfl⟩
end Go.Proofs.YtciahchpdmajbaaDoor
