/- Put, of Last's map. (By map3_tpl.py.) -/
import Derived.Test.YtciahchpdmajbaaGreatDoorMap2
import Derived.Deep.RegionWith
namespace Go.Proofs.YtciahchpdmajbaaGreatDoor
open Go.RowKit
attribute [local go_sem ↓] Go.wp_at_zero Go.wp_at_succ

abbrev bx4 (k : Ak) (v : Pn) (w : World) : World := ((w.alloc (.cells k.cells.toArray 59)).alloc (.cells v.cells.toArray 40)).alloc (.cells #[.string ⟨#[]⟩, .int .i64 0, .int .i64 0, .int .i64 0, .int .i64 0, .int .i64 0, .int .i64 0, .int .i64 0, .int .i64 0] 40)
abbrev set9 (W : World) (b : Nat) (v0 v1 v2 v3 v4 v5 v6 v7 v8 : Value) : World := ((((((((W.setCell ⟨b, 0, none⟩ v0).setCell ⟨b, 1, none⟩ v1).setCell ⟨b, 2, none⟩ v2).setCell ⟨b, 3, none⟩ v3).setCell ⟨b, 4, none⟩ v4).setCell ⟨b, 5, none⟩ v5).setCell ⟨b, 6, none⟩ v6).setCell ⟨b, 7, none⟩ v7).setCell ⟨b, 8, none⟩ v8
theorem set9_other (W : World) (b i : Nat) (h : i ≠ b) (v0 v1 v2 v3 v4 v5 v6 v7 v8 : Value) : (set9 W b v0 v1 v2 v3 v4 v5 v6 v7 v8).heap[i]? = W.heap[i]? := by
  unfold set9
  rw [Below.heap_setCell _ ⟨b, 8, none⟩ _ i h, Below.heap_setCell _ ⟨b, 7, none⟩ _ i h, Below.heap_setCell _ ⟨b, 6, none⟩ _ i h, Below.heap_setCell _ ⟨b, 5, none⟩ _ i h, Below.heap_setCell _ ⟨b, 4, none⟩ _ i h, Below.heap_setCell _ ⟨b, 3, none⟩ _ i h, Below.heap_setCell _ ⟨b, 2, none⟩ _ i h, Below.heap_setCell _ ⟨b, 1, none⟩ _ i h, Below.heap_setCell _ ⟨b, 0, none⟩ _ i h]
def PutDone2 (mb : Nat) (xs : List (Ak × Pn)) (w : World) (e : Ending) (w' : World) : Prop :=
  ∃ (p : Pn) (ok : Bool), e = .returned (.tuple #[p.val, .bool ok, .int .i64 0]) ∧ ∃ t, MapIs2 w' mb t ∧ In2 w' t ∧ t.list = xs ∧ Only mb w w'

set_option maxHeartbeats 4000000 in
set_option maxRecDepth 100000 in
theorem Put2_any (k : Ak) (v : Pn) (mb : Nat) (t0 : Tr Ak Pn) (w : World) (h0 : In2 w t0) (hm : MapIs2 w mb t0) (hs : t0.many ≤ 10000) :
    Calls Tryz.prog 31 #[.pointer (some ⟨mb, 0, none⟩), k.val, v.val] w (PutDone2 mb (t0.put2 k v) w) := by
  have HG := hide fun (W : World) (h : In2 W t0) (h2 : MapIs2 W mb t0) => get2_any k mb t0 W h h2.cells.1 h2.cells.2
  have HN := hide fun (W : World) (h : MapIs2 W mb t0) => none2_ok mb 27 W h.cells.1
  have HP := hide fun (W : World) (h : In2 W t0) (h2 : W.cell? ⟨mb, 0, none⟩ = some (.func (.func 27) #[] #[])) => put2_any k v mb t0 W h hs h2
  have hb : Below w.heap.size w (bx4 k v w) := (((Below.refl _ w).alloc (Nat.le_refl _) _).alloc (by simp) _).alloc (by simp; omega) _
  have hmb : mb < w.heap.size := Tr.lt_of_some hm
  have hT := h0.below hb
  have hM : MapIs2 (bx4 k v w) mb t0 := (hb.block mb hmb).trans hm
  have b0 : (bx4 k v w).heap[w.heap.size]? = some (.cells k.cells.toArray 59 (0, 0)) := (Below.heap_alloc _ _ _ (by simp; omega)).trans ((Below.heap_alloc _ _ _ (by simp)).trans (heap_alloc_new w _))
  have b1 : (bx4 k v w).heap[w.heap.size + 1]? = some (.cells v.cells.toArray 40 (0, 0)) := (Below.heap_alloc _ _ _ (by simp)).trans (by
    have := heap_alloc_new (w.alloc (.cells k.cells.toArray 59)) (.cells v.cells.toArray 40)
    rwa [World.size_alloc] at this)
  have b2 : (bx4 k v w).heap[w.heap.size + 1 + 1]? = some (.cells #[.string ⟨#[]⟩, .int .i64 0, .int .i64 0, .int .i64 0, .int .i64 0, .int .i64 0, .int .i64 0, .int .i64 0, .int .i64 0] 40 (0, 0)) := by
    have := heap_alloc_new ((w.alloc (.cells k.cells.toArray 59)).alloc (.cells v.cells.toArray 40)) (.cells #[.string ⟨#[]⟩, .int .i64 0, .int .i64 0, .int .i64 0, .int .i64 0, .int .i64 0, .int .i64 0, .int .i64 0, .int .i64 0] 40)
    rwa [World.size_alloc, World.size_alloc] at this
  have HMB := hide hmb
  clear hm h0 hs
  go_enter Tryz.func31, Tryz.ntmps31
  go_wp2_with fail
  obtain ⟨W0, hW⟩ : ∃ W0, W0 = bx4 k v w := ⟨_, rfl⟩
  (try rw [show ((w.alloc (.cells k.cells.toArray 59)).alloc (.cells v.cells.toArray 40)).alloc (.cells #[.string ⟨#[]⟩, .int .i64 0, .int .i64 0, .int .i64 0, .int .i64 0, .int .i64 0, .int .i64 0, .int .i64 0, .int .i64 0] 40) = W0 from hW.symm])
  rw [← hW] at hb hT hM b0 b1 b2
  clear hW
  (with_reducible refine (unhide HG _ hT hM).mono ?_)
  rintro e w1 ⟨p, ok, rfl, hb1⟩
  have hM1 : MapIs2 w1 mb t0 := (hb1.block mb (Tr.lt_of_some hM)).trans hM
  have hT1 := hT.below hb1
  have hB1 : Below w.heap.size w w1 := hb.trans (hb1.mono hb.size)
  have d0 := (hb1.block _ (Tr.lt_of_some b0)).trans b0
  have d1 := (hb1.block _ (Tr.lt_of_some b1)).trans b1
  have d2 := (hb1.block _ (Tr.lt_of_some b2)).trans b2
  have hM2 : MapIs2 (w1.alloc (.cells p.cells.toArray 40)) mb t0 := (Below.heap_alloc _ _ _ (Tr.lt_of_some hM1)).trans hM1
  have hT2 : In2 (w1.alloc (.cells p.cells.toArray 40)) t0 := hT1.alloc _
  have g0 := (Below.heap_alloc w1 (.cells p.cells.toArray 40) _ (Tr.lt_of_some d0)).trans d0
  have g1 := (Below.heap_alloc w1 (.cells p.cells.toArray 40) _ (Tr.lt_of_some d1)).trans d1
  have g2 := (Below.heap_alloc w1 (.cells p.cells.toArray 40) _ (Tr.lt_of_some d2)).trans d2
  have g3 : (w1.alloc (.cells p.cells.toArray 40)).heap[w1.heap.size]? = some (.cells p.cells.toArray 40 (0, 0)) := heap_alloc_new w1 _
  have hB2 : Below w.heap.size w (w1.alloc (.cells p.cells.toArray 40)) := hB1.alloc hB1.size _
  have HNE : Hid (w1.heap.size ≠ w.heap.size + 1 + 1) := by
    have := Tr.lt_of_some d2
    show _ ≠ _
    omega
  have HLT : Hid (w.heap.size ≤ w1.heap.size) := hB1.size
  clear hb hT hM b0 b1 b2 hb1 hM1 hT1 hB1 d0 d1 d2 hmb
  have HM2 := hide hM2
  have HT2 := hide hT2
  have HG2 := hide g2
  have HG3 := hide g3
  have HB2 := hide hB2
  have G0 := hide g0
  have G1 := hide g1
  clear hM2 hT2 g2 g3 hB2 g0 g1
  go_wp2_with fail
  obtain ⟨W, hW⟩ : ∃ W, W = w1.alloc (.cells p.cells.toArray 40) := ⟨_, rfl⟩
  have hW2 : w1.alloc (.cells #[.string p.key, .int .i64 p.s, .int .i64 p.e, .int .i64 p.kind, .int .i64 p.nth, .int .i64 p.count, .int .i64 p.sum, .int .i64 p.min, .int .i64 p.max] 40) = W := hW.symm
  (try rw [hW2])
  rw [← hW] at HM2 HT2 HG2 HG3 HB2 G0 G1
  clear hW hW2
  (with_reducible refine (unhide HN _ HM2.out).mono ?_)
  rintro e w2 ⟨rfl, rfl⟩
  have m0 := HM2.out.cells.1
  have m1 := HM2.out.cells.2
  have x0 : W.cell? ⟨w.heap.size, 0, none⟩ = some (.string k.key) := by rw [cell_of_row W _ _ _ _ (0, 0) G0.out]; rfl
  have x1 : W.cell? ⟨w.heap.size, 1, none⟩ = some (.int .i64 k.s) := by rw [cell_of_row W _ _ _ _ (0, 0) G0.out]; rfl
  have x2 : W.cell? ⟨w.heap.size, 2, none⟩ = some (.int .i64 k.e) := by rw [cell_of_row W _ _ _ _ (0, 0) G0.out]; rfl
  have y0 : W.cell? ⟨w.heap.size + 1, 0, none⟩ = some (.string v.key) := by rw [cell_of_row W _ _ _ _ (0, 0) G1.out]; rfl
  have y1 : W.cell? ⟨w.heap.size + 1, 1, none⟩ = some (.int .i64 v.s) := by rw [cell_of_row W _ _ _ _ (0, 0) G1.out]; rfl
  have y2 : W.cell? ⟨w.heap.size + 1, 2, none⟩ = some (.int .i64 v.e) := by rw [cell_of_row W _ _ _ _ (0, 0) G1.out]; rfl
  have y3 : W.cell? ⟨w.heap.size + 1, 3, none⟩ = some (.int .i64 v.kind) := by rw [cell_of_row W _ _ _ _ (0, 0) G1.out]; rfl
  have y4 : W.cell? ⟨w.heap.size + 1, 4, none⟩ = some (.int .i64 v.nth) := by rw [cell_of_row W _ _ _ _ (0, 0) G1.out]; rfl
  have y5 : W.cell? ⟨w.heap.size + 1, 5, none⟩ = some (.int .i64 v.count) := by rw [cell_of_row W _ _ _ _ (0, 0) G1.out]; rfl
  have y6 : W.cell? ⟨w.heap.size + 1, 6, none⟩ = some (.int .i64 v.sum) := by rw [cell_of_row W _ _ _ _ (0, 0) G1.out]; rfl
  have y7 : W.cell? ⟨w.heap.size + 1, 7, none⟩ = some (.int .i64 v.min) := by rw [cell_of_row W _ _ _ _ (0, 0) G1.out]; rfl
  have y8 : W.cell? ⟨w.heap.size + 1, 8, none⟩ = some (.int .i64 v.max) := by rw [cell_of_row W _ _ _ _ (0, 0) G1.out]; rfl
  go_wp2_with fail
  go_region_with ((go_at_call 51; (with_reducible refine (unhide HP _ HT2.out.drew (kd m0)).mono ?_); rintro e W2 ⟨t', rfl, hi', hx', hc1⟩; have hm' : MapIs2 W2 mb t0 := (hc1.block mb (Tr.lt_of_some HM2.out)).trans HM2.out; have hf' := frozen_of_block hm' 1; have hc' := hm'.cells.2; have HM3 := hide hm'; have HX := hide hx'; clear hm' hx'))
  all_goals
    obtain ⟨W3, hW3⟩ : ∃ W3, W3 = W2.setCell ⟨mb, 1, none⟩ (.pointer t'.ad) := ⟨_, rfl⟩
    rw [← hW3]
    have HT3 := hide (p := In2 W3 t') (by rw [hW3]; exact hi'.keep fun b cs hcs => Below.heap_setCell _ _ _ _ (fun e => by subst e; have := hcs.symm.trans HM3.out; injection this with this; injection this with _ h2; cases h2))
    have HMM := hide (p := MapIs2 W3 mb t') (by rw [hW3]; exact setCell_block HM3.out 1 (.pointer t'.ad))
    have HO := hide (p := Only mb w W3) (by
      rw [hW3]
      refine only_trans (only_of_below mb ((HB2.out.drew.trans (hc1.mono HB2.out.size)).mono (Nat.le_refl _))) (only_setCell W2 mb 1 _))
    have a2 : W3.heap[w.heap.size + 1 + 1]? = some (.cells #[.string ⟨#[]⟩, .int .i64 0, .int .i64 0, .int .i64 0, .int .i64 0, .int .i64 0, .int .i64 0, .int .i64 0, .int .i64 0] 40 (0, 0)) := by
      rw [hW3, Below.heap_setCell _ ⟨mb, 1, none⟩ _ _ (show w.heap.size + 1 + 1 ≠ mb by have := HMB.out; omega)]
      exact (hc1.block _ (Tr.lt_of_some HG2.out)).trans HG2.out
    have a3 : W3.heap[w1.heap.size]? = some (.cells p.cells.toArray 40 (0, 0)) := by
      rw [hW3, Below.heap_setCell _ ⟨mb, 1, none⟩ _ _ (show w1.heap.size ≠ mb by have := HMB.out; have := HLT.out; omega)]
      exact (hc1.block _ (Tr.lt_of_some HG3.out)).trans HG3.out
    have q0 : W3.cell? ⟨w.heap.size + 1 + 1, 0, none⟩ = some (.string ⟨#[]⟩) := by rw [cell_of_row W3 _ _ _ _ (0, 0) a2]; rfl
    have q1 : W3.cell? ⟨w.heap.size + 1 + 1, 1, none⟩ = some (.int .i64 0) := by rw [cell_of_row W3 _ _ _ _ (0, 0) a2]; rfl
    have q2 : W3.cell? ⟨w.heap.size + 1 + 1, 2, none⟩ = some (.int .i64 0) := by rw [cell_of_row W3 _ _ _ _ (0, 0) a2]; rfl
    have q3 : W3.cell? ⟨w.heap.size + 1 + 1, 3, none⟩ = some (.int .i64 0) := by rw [cell_of_row W3 _ _ _ _ (0, 0) a2]; rfl
    have q4 : W3.cell? ⟨w.heap.size + 1 + 1, 4, none⟩ = some (.int .i64 0) := by rw [cell_of_row W3 _ _ _ _ (0, 0) a2]; rfl
    have q5 : W3.cell? ⟨w.heap.size + 1 + 1, 5, none⟩ = some (.int .i64 0) := by rw [cell_of_row W3 _ _ _ _ (0, 0) a2]; rfl
    have q6 : W3.cell? ⟨w.heap.size + 1 + 1, 6, none⟩ = some (.int .i64 0) := by rw [cell_of_row W3 _ _ _ _ (0, 0) a2]; rfl
    have q7 : W3.cell? ⟨w.heap.size + 1 + 1, 7, none⟩ = some (.int .i64 0) := by rw [cell_of_row W3 _ _ _ _ (0, 0) a2]; rfl
    have q8 : W3.cell? ⟨w.heap.size + 1 + 1, 8, none⟩ = some (.int .i64 0) := by rw [cell_of_row W3 _ _ _ _ (0, 0) a2]; rfl
    have g0 := frozen_of_block a2 0
    have g1 := frozen_of_block a2 1
    have g2 := frozen_of_block a2 2
    have g3 := frozen_of_block a2 3
    have g4 := frozen_of_block a2 4
    have g5 := frozen_of_block a2 5
    have g6 := frozen_of_block a2 6
    have g7 := frozen_of_block a2 7
    have g8 := frozen_of_block a2 8
    have z0 : W3.cell? ⟨w1.heap.size, 0, none⟩ = some (.string p.key) := by rw [cell_of_row W3 _ _ _ _ (0, 0) a3]; rfl
    have z1 : W3.cell? ⟨w1.heap.size, 1, none⟩ = some (.int .i64 p.s) := by rw [cell_of_row W3 _ _ _ _ (0, 0) a3]; rfl
    have z2 : W3.cell? ⟨w1.heap.size, 2, none⟩ = some (.int .i64 p.e) := by rw [cell_of_row W3 _ _ _ _ (0, 0) a3]; rfl
    have z3 : W3.cell? ⟨w1.heap.size, 3, none⟩ = some (.int .i64 p.kind) := by rw [cell_of_row W3 _ _ _ _ (0, 0) a3]; rfl
    have z4 : W3.cell? ⟨w1.heap.size, 4, none⟩ = some (.int .i64 p.nth) := by rw [cell_of_row W3 _ _ _ _ (0, 0) a3]; rfl
    have z5 : W3.cell? ⟨w1.heap.size, 5, none⟩ = some (.int .i64 p.count) := by rw [cell_of_row W3 _ _ _ _ (0, 0) a3]; rfl
    have z6 : W3.cell? ⟨w1.heap.size, 6, none⟩ = some (.int .i64 p.sum) := by rw [cell_of_row W3 _ _ _ _ (0, 0) a3]; rfl
    have z7 : W3.cell? ⟨w1.heap.size, 7, none⟩ = some (.int .i64 p.min) := by rw [cell_of_row W3 _ _ _ _ (0, 0) a3]; rfl
    have z8 : W3.cell? ⟨w1.heap.size, 8, none⟩ = some (.int .i64 p.max) := by rw [cell_of_row W3 _ _ _ _ (0, 0) a3]; rfl
    have A2 := hide a2
    clear hW3 a2 a3 hi' hc1 hf' hc' m0 m1 x0 x1 x2 y0 y1 y2 y3 y4 y5 y6 y7 y8
    go_wp2_with fail
    refine bodyPost_ret (v := .tuple #[p.val, .bool ok, .int .i64 0]) (by simp [results, Tryz.results31, go_sem, q0, q1, q2, q3, q4, q5, q6, q7, q8]) rfl ⟨p, ok, rfl, t', ?_, ?_, HX.out, ?_⟩
    · exact (set9_other W3 _ mb (by have := HMB.out; omega) _ _ _ _ _ _ _ _ _).trans HMM.out
    · exact HT3.out.keep fun b cs hcs => set9_other W3 _ b (fun e => by subst e; have := hcs.symm.trans A2.out; injection this with this; injection this with _ h2; cases h2) _ _ _ _ _ _ _ _ _
    · have hbl : Below w.heap.size W3 (set9 W3 (w.heap.size + 1 + 1) p.cells[0]! p.cells[1]! p.cells[2]! p.cells[3]! p.cells[4]! p.cells[5]! p.cells[6]! p.cells[7]! p.cells[8]!) := below_set9 (Below.refl _ _) (by omega) _ _ _ _ _ _ _ _ _
      exact ⟨hbl.os.trans HO.out.os, hbl.tape.trans HO.out.tape, hbl.output.trans HO.out.output, Nat.le_trans HO.out.size hbl.size, fun i hi hne => (hbl.block i hi).trans (HO.out.block i hi hne)⟩
end Go.Proofs.YtciahchpdmajbaaGreatDoor
