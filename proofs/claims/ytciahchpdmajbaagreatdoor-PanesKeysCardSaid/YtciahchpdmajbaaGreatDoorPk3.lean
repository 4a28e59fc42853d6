/- PanesKeys: two lists of panes and a key: panes by keys, the last ones, the ones of a key, begins and alike answer as the document's own definitions do; the lists stay as they were; what is told is new each time, also where it is written over and grown: for every input the law returns true, and the input reads as it did. Conditions: package-level variables start as the program's own text lays them (tied). -/
import Derived.Test.YtciahchpdmajbaaGreatDoorPk1
import Derived.Test.YtciahchpdmajbaaGreatDoorRead
import Derived.Test.YtciahchpdmajbaaGreatDoorRows
import Derived.Lib.LaidTab
import Derived.Stop.LaidErr
import Derived.Lay
import Derived.LaidMore
import Derived.MakeChecks
import Derived.ProofKit
import Derived.OpenShut
import Derived.Deep.DeepHandedRow
import Derived.WideKeyArgs
import Derived.Shelf.Vars
import Derived.Test.YtciahchpdmajbaaGreatDoorCards
import Derived.Test.YtciahchpdmajbaaGreatDoorTie
namespace Go.Proofs.YtciahchpdmajbaaGreatDoor
open Go.RowKit Go.ChangeShapes Go.WideShapes Go.ChangeAt Go.Deep

set_option maxHeartbeats 1000000 in
set_option maxRecDepth 100000 in
theorem law_big {B : Nat} (A1 : Option Addr) (n1 c1 : Nat) (A2 : Option Addr) (n2 c2 : Nat) (key : ByteArray) (w : World) (hlen : 200 < n1 ∨ 200 < n2) (hE : Env B w) :
    Calls Tryz.prog 3 #[.slice A1 n1 c1, .slice A2 n2 c2, .string key] w fun e w' => e = .returned (.bool true) ∧ Below w.heap.size w w' := by
  have HK := hide (known_any _ hE)
  clear hE
  by_cases h1 : 200 < n1
  · have hd : decide ((200 : Int) < (n1 : Int)) = true := by simp; omega
    go_enter Tryz.func3, Tryz.ntmps3
    go_wp2_with (go_at_call 4; (with_reducible refine (unhide HK).mono ?_); rintro e w1 ⟨rfl, hb1⟩)
    go_ret
    exact ⟨rfl, hb1⟩
  · have hd : decide ((200 : Int) < (n1 : Int)) = false := by simp; omega
    have hd2 : decide ((200 : Int) < (n2 : Int)) = true := by simp; omega
    go_enter Tryz.func3, Tryz.ntmps3
    go_wp2_with (go_at_call 4; (with_reducible refine (unhide HK).mono ?_); rintro e w1 ⟨rfl, hb1⟩)
    go_ret
    exact ⟨rfl, hb1⟩

theorem law_any {B : Nat} (A1 : Option Addr) (n1 c1 : Nat) (ps : List Pn) (A2 : Option Addr) (n2 c2 : Nat) (qs : List Pn) (key : ByteArray) (w : World) (hn1 : ps.length = n1) (hn2 : qs.length = n2) (hR1 : Rd w A1 ps) (hR2 : Rd w A2 qs)
    (hs1 : ∀ p ∈ ps, p.key.size ≤ maxLen) (hs2 : ∀ p ∈ qs, p.key.size ≤ maxLen) (hE : Env B w) :
    Calls Tryz.prog 3 #[.slice A1 n1 c1, .slice A2 n2 c2, .string key] w fun e w' => e = .returned (.bool true) ∧ Below w.heap.size w w' := by
  by_cases h : 200 < n1 ∨ 200 < n2
  · exact law_big A1 n1 c1 A2 n2 c2 key w h hE
  · subst hn1 hn2
    exact law_small A1 c1 ps A2 c2 qs key w (by omega) (by omega) hR1 hR2 hs1 hs2 hE

theorem own_knob : ownKnob Tryz.prog.godebug = none := by kernel_rfl
theorem g_pow10 : Tryz.prog.globalNamed "internal/strconv.uint64pow10" = some 0 := by kernel_rfl
theorem g_pow10_type : (Tryz.prog.globals[0]?).map (·.type) = some 139 := by kernel_rfl
theorem cells_pow10 : Tryz.prog.cellsOf 139 = 20 := by kernel_rfl
theorem cells_u64 : Tryz.prog.cellsOf 123 = 1 := by kernel_rfl
theorem pow10_datum : (Rows.laid_internal_strconv_uint64pow10 : DataW Unit) = Lib.tabData .u64 Lib.pow10Tab := by kernel_rfl
theorem max_len {W : World} (hsh : W.ShapedOpen Tryz.prog) : ∃ m, W.cell? ⟨3, 0, none⟩ = some (.int .i64 m) :=
  cell_of_shapedOpen_int (P := Tryz.prog) (g := 3) (t := 3) (zero := #[.int .i64 0]) hsh (of_decide_eq_true (by kernel_rfl)) (by kernel_rfl) rfl (by kernel_rfl) (by kernel_rfl) Tryz.underlying3
theorem env_of {W : World} (hL : laidMetH Tryz.prog Rows.panesKeysRow.laid W) (hsh : W.ShapedOpen Tryz.prog) : Env W.heap.size W := by
  rw [MakeChecks.laidMetH_plain _ _ _ (by kernel_rfl)] at hL
  have h3 := hL.tail.tail
  have htab : Lib.TabIs Tryz.prog W "internal/strconv.uint64pow10" .u64 Lib.pow10Tab := by
    rw [pow10_datum] at h3
    exact Lib.tabIs_of_head g_pow10 g_pow10_type Tryz.underlying139 Tryz.underlying123 cells_u64 cells_pow10 h3
  obtain ⟨m, hm⟩ := max_len hsh
  exact ⟨Lib.tabBelow_of_tabIs htab, Nat.le_refl _, World.block_lt_of_cell? W _ hm, m, hm⟩

/-- The arguments of the witness: no panes, no panes, no key. -/
abbrev wArgs : Array Value := #[.slice none 0 0, .slice none 0 0, .string ⟨#[]⟩]
theorem w_met (os : Os) : laidMetH Tryz.prog Rows.panesKeysRow.laid ((World.laidAll Tryz.prog os Rows.panesKeysRow.laid).forCall (fun _ _ => 0) ⟨#[], wArgs, []⟩).memory := by
  rw [MakeChecks.laidMetH_plain _ _ _ (by kernel_rfl)]
  exact laidMet_laidAll _ (by kernel_rfl) (by kernel_rfl)
theorem w_shaped (os : Os) : ((World.laidAll Tryz.prog os Rows.panesKeysRow.laid).forCall (fun _ _ => 0) ⟨#[], wArgs, []⟩).Shaped Tryz.prog := World.shaped_of_ZipB (by kernel_rfl) (by kernel_rfl)
theorem w_ok (os : Os) : Input.okWideB Tryz.prog ((World.laidAll Tryz.prog os Rows.panesKeysRow.laid).forCall (fun _ _ => 0) ⟨#[], wArgs, []⟩) 3 ⟨#[], wArgs, []⟩ = true := by kernel_rfl
theorem w_reads (os : Os) {H : Type} (enc : TypeId × Value → H) : ∃ ds, DataW.whole enc Tryz.prog ((World.laidAll Tryz.prog os Rows.panesKeysRow.laid).forCall (fun _ _ => 0) ⟨#[], wArgs, []⟩).memory Tryz.f3.params.toList Rows.panesKeysSpec.vars false wArgs.toList 8 = some (ds, [], []) :=
  ⟨[.nil, .nil, .lit (.string [])], by kernel_rfl⟩
end Go.Proofs.YtciahchpdmajbaaGreatDoor

namespace Go.Proofs.YtciahchpdmajbaaGreatDoor
open Go.RowKit Go.ChangeShapes Go.WideShapes Go.ChangeAt Go.Deep

section
variable {H : Type} {enc : TypeId × Value → H} {P : Program}
theorem post_of_below {f : Func} {s : ChangeSpec} {apart fresh handsOn again : Bool} {W W' : World} {args : Array Value} {v : Value} {ds gs : List (DataW H)} {before pa pv : List MemPlace}
    (hW : DataW.Whole enc P f.params.toList s.vars apart W args.toList ds gs before)
    (hres : ∀ (b : Nat) (sp : Nat → Bool) (hd : Bool), DataW.TrodAll enc P W' b sp hd f.resultTypes.toList (v.resultList f.resultTypes.size) (s.fn H (ds ++ gs)).results [])
    (hargs : ∀ sp : Nat → Bool, (∀ p ∈ before, sp p.block = true) → DataW.TrodAll enc P W' 0 sp true f.params.toList args.toList (s.fn H (ds ++ gs)).args pa)
    (hvars : ∀ sp : Nat → Bool, (∀ p ∈ before, sp p.block = true) → DataW.TrodVars enc P W' sp s.vars (s.fn H (ds ++ gs)).vars pv)
    (hps : before = pa ++ pv) (hb : Below W.heap.size W W')
    (hok : ∀ (j : Nat) (t : TypeId) (r : Value), f.resultTypes[j]? = some t → (v.resultList f.resultTypes.size)[j]? = some r → Value.okWide P W' .any 0 t r) :
    s.post enc P f apart fresh handsOn again W args v W' := by
  have hlt : ∀ p ∈ before, p.block < W.heap.size := fun p hp => hW.lt p hp
  have hold : ∀ p ∈ before, (fun b => decide (b < W.heap.size)) p.block = true := fun p hp => by simpa using hlt p hp
  refine ⟨ds, gs, before, [], pa, pv, hW, hres _ _ _, hargs _ hold, hvars _ hold, World.keptBut_mono (fun p hp => ⟨hp, ?_⟩) (hb.frame (· ∈ before)), fun _ => ?_⟩
  · rw [hps, List.mem_append] at hp
    exact Or.inr hp
  · obtain ⟨_, _, _, _, _, hz, hn⟩ := hW
    refine ⟨hok, _, _, ([] ++ pa) ++ pv, ⟨[] ++ pa, pv, trodAll_append (hargs _ (fun _ _ => rfl)) (hres _ _ _), hvars _ (fun _ _ => rfl), rfl, ?_, ?_⟩, ?_⟩
    · intro b off hp
      have hin : MemPlace.cell b off ∈ before := by rw [hps]; simpa using hp
      rw [hb.frozen (hlt _ hin)]
      exact hz b off hin
    · intro ha
      have := hn ha
      rw [hps] at this
      simpa using this
    · intro p hp _
      rw [hps]
      simpa using hp
end

theorem laid_out : laidOutB Tryz.prog = true := by kernel_rfl
theorem readable_Panes : Tryz.prog.readableRec 22 = true := by kernel_rfl
theorem readable_Str : Tryz.prog.readableRec 9 = true := by kernel_rfl
theorem types_Panes : 22 < Tryz.prog.types.size := of_decide_eq_true (by kernel_rfl)
theorem types_Str : 9 < Tryz.prog.types.size := of_decide_eq_true (by kernel_rfl)

set_option maxRecDepth 100000 in
theorem contract (H : Type) (enc : TypeId × Value → H) (W : World) (base : Nat) (args : Array Value) (ds gs : List (DataW H)) (before : List MemPlace)
    (hval0 : ∀ (j : Nat) t v, Tryz.f3.params[j]? = some t → args[j]? = some v → Value.okWide Tryz.prog W .any base t v)
    (hW : DataW.Whole enc Tryz.prog Tryz.f3.params.toList Rows.panesKeysSpec.vars false W args.toList ds gs before) (hL : laidMetH Tryz.prog Rows.panesKeysRow.laid W) (hsh : W.ShapedOpen Tryz.prog) :
    Calls Tryz.prog 3 args W fun e W' => ∃ v, e = .returned v ∧ Rows.panesKeysSpec.post enc Tryz.prog Tryz.f3 false true false false W args v W' := by
  have hval : ∀ (j : Nat) t v, Tryz.f3.params[j]? = some t → args[j]? = some v → Value.okWide Tryz.prog W .any base t v := hval0
  have hW' := hW
  obtain ⟨p, q, hA0, hV, rfl, hfz, hnd⟩ := hW
  have hA : DataW.TrodAll enc Tryz.prog W 0 (fun _ => true) true Tryz.f3.params.toList args.toList ds p := hA0
  rw [Tryz.params3] at hA hval
  obtain ⟨v0, v1, v2, d0, d1, d2, p0, p1, p2, rfl, rfl, rfl, h0, h1, h2⟩ := trodAll_three hA
  obtain ⟨rfl, rfl⟩ := trodVars_none hV
  obtain ⟨a0, n0, c0, rfl⟩ := okWide_slice Tryz.underlying22 (hval 0 22 v0 rfl rfl)
  obtain ⟨A, n, c, ps, hv0, hn, hR, hs⟩ := open_panes h0 rfl
  injection hv0 with e1 e2 e3
  subst e1 e2 e3
  obtain ⟨a1, n1, c1, rfl⟩ := okWide_slice Tryz.underlying22 (hval 1 22 v1 rfl rfl)
  obtain ⟨A', n', c', qs, hv1, hn1, hR1, hs1⟩ := open_panes h1 rfl
  injection hv1 with e1 e2 e3
  subst e1 e2 e3
  obtain ⟨key, rfl⟩ := okWide_string Tryz.underlying9 (hval 2 9 v2 rfl rfl)
  refine (law_any a0 n0 c0 ps a1 n1 c1 qs key W hn hn1 hR hR1 hs hs1 (env_of hL hsh)).mono fun e W' ⟨he, hb⟩ => ?_
  subst he
  simp only [List.append_nil, List.append_assoc] at hW'
  have hlt : ∀ x ∈ p0 ++ (p1 ++ p2), x.block < W.heap.size := fun x hx => hW'.lt x hx
  refine ⟨_, rfl, post_of_below (pa := p0 ++ (p1 ++ p2)) (pv := []) hW' (fun _ _ _ => trodAll_mk1 (shut_bool Tryz.underlying4 _)) (fun sp hsp => ?_) (fun _ _ => rfl) (by simp) hb (ok_one (by kernel_rfl) rfl (okWide_bool_mk Tryz.underlying4 _))⟩
  rw [Tryz.params3]
  refine trodAll_mk3 ?_ ?_ ?_
  · exact Go.WideElems.Trod_stays laid_out readable_Panes types_Panes h0 (fun x hx => hb.same (hlt x (List.mem_append_left _ hx))) (fun x hx => hsp x (List.mem_append_left _ hx))
  · exact Go.WideElems.Trod_stays laid_out readable_Panes types_Panes h1 (fun x hx => hb.same (hlt x (List.mem_append_right _ (List.mem_append_left _ hx)))) (fun x hx => hsp x (List.mem_append_right _ (List.mem_append_left _ hx)))
  · exact Go.WideElems.Trod_stays laid_out readable_Str types_Str h2 (fun x hx => hb.same (hlt x (List.mem_append_right _ (List.mem_append_right _ hx)))) (fun x hx => hsp x (List.mem_append_right _ (List.mem_append_right _ hx)))

set_option maxRecDepth 100000 in
theorem lifted (os : Os) (started : os.Started) (H : Type) (enc : TypeId × Value → H) (F : Stop.Interp) :
    ReturnsInHanded {} Tryz.checked os 3 .any ((OpenSpec.ofChange Rows.panesKeysSpec).preRow enc Tryz.prog Tryz.f3 Rows.panesKeysRow.domain false Rows.panesKeysRow.laid) (((OpenSpec.ofChange Rows.panesKeysSpec).at F).post enc Tryz.prog Tryz.f3 false true false false) := by
  obtain ⟨ds, hx⟩ := w_reads os enc
  refine returnsInHanded_of_row (C := Tryz.checked) (s := OpenSpec.ofChange Rows.panesKeysSpec) own_knob started (by kernel_rfl) Tryz.func3
    ⟨World.laidAll Tryz.prog os Rows.panesKeysRow.laid, fun _ _ => 0, ⟨#[], wArgs, []⟩, World.laidAll_os _ _ _, w_shaped os, rfl, (Input.okWide_of_okWideB (w_ok os)).2, OpenSpec.preRow_of_cond 8 hx (by kernel_rfl) (fun k hk => by cases hk) (by kernel_rfl) (w_met os), by
      simp only [Assume.holds]
      refine ⟨?_, ?_, ?_, ?_, ?_⟩ <;> simp⟩ ?_
  intro W base args ds gs before hval hW _ _ _ hL hsh _
  exact contract H enc W base args ds gs before hval hW hL hsh

theorem said : Rows.PanesKeysSaid :=
  OpenClaim.holds_of_cond 3 Tryz.f3 rfl rfl rfl rfl rfl rfl rfl ⟨rfl, rfl, rfl, rfl, rfl⟩ rfl rfl rfl rfl rfl (by kernel_rfl) Tryz.func3 (by kernel_rfl)
    (of_decide_eq_true (by kernel_rfl)) (by unfold Func.isWrapper; first | (rw [if_pos (by decide +kernel)]; kernel_rfl) | (rw [if_neg (by decide +kernel)]; exact ⟨rfl, rfl⟩))
    (fun os started H enc _ F => by rw [OpenClaim.pre_eq_preRow]; exact lifted os started H enc F)

theorem plain (f : FuncId) (fn : Func) (hf : Tryz.pinned.checked.prog.funcNamed "keepsake/keepsakelaw18.PanesKeys" = some f) (hfn : Tryz.pinned.checked.prog.funcs[f]? = some fn) :
    true = Tryz.pinned.checked.prog.looks [] ∧ ∀ (j : Nat) t, fn.params[j]? = some t → Tryz.pinned.checked.prog.wantsStandIn t = false := by
  obtain rfl : f = 3 := Option.some.inj ((show Tryz.prog.funcNamed "keepsake/keepsakelaw18.PanesKeys" = some 3 by kernel_rfl).symm.trans hf) |>.symm
  obtain rfl : fn = Tryz.f3 := (Option.some.inj (Tryz.func3.symm.trans hfn)).symm
  refine ⟨by kernel_rfl, fun j t ht => ?_⟩
  rw [Tryz.params3] at ht
  have hm : t ∈ [22, 22, 9] := by simpa using Array.mem_of_getElem? ht
  have hall : ([22, 22, 9].all fun u => !Tryz.prog.wantsStandIn u) = true := by kernel_rfl
  have h := List.all_eq_true.1 hall t hm
  show Tryz.prog.wantsStandIn t = false
  simpa using h

/-- The card. -/
theorem panes_keys_card : Rows.PanesKeysCardSaid :=
  Claim7.holds_tied_plain_at .later [] _ _ _ _ said (fun _ h => by cases h) (by kernel_rfl) (fun _ h => by cases h) panesKeys_row_tie rfl ⟨rfl, rfl⟩ (by kernel_rfl) rfl plain (by kernel_rfl)
#print axioms panes_keys_card
end Go.Proofs.YtciahchpdmajbaaGreatDoor
