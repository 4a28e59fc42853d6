/- Get, of Last's map: what it answers is thrown away. (By map2_tpl.py.) -/
import Derived.Test.YtciahchpdmajbaaGreatDoorLeaf2
import Derived.Deep.LoopGhost
namespace Go.Proofs.YtciahchpdmajbaaGreatDoor
open Go.RowKit
attribute [local go_sem ↓] Go.wp_at_zero Go.wp_at_succ

def Got2 (w : World) (e : Ending) (w' : World) : Prop := ∃ (p : Pn) (ok : Bool), e = .returned (.tuple #[p.val, .bool ok]) ∧ Below w.heap.size w w'
abbrev bx3 (k : Ak) (w : World) : World := ((w.alloc (.cells k.cells.toArray 59)).alloc (.cells #[.string ⟨#[]⟩, .int .i64 0, .int .i64 0, .int .i64 0, .int .i64 0, .int .i64 0, .int .i64 0, .int .i64 0, .int .i64 0] 40)).alloc (.cells #[.string ⟨#[]⟩, .int .i64 0, .int .i64 0, .int .i64 0, .int .i64 0, .int .i64 0, .int .i64 0, .int .i64 0, .int .i64 0] 40)
theorem below_set9 {B b : Nat} {w W : World} (h : Below B w W) (hb : B ≤ b) (v0 v1 v2 v3 v4 v5 v6 v7 v8 : Value) : Below B w (((((((((W.setCell ⟨b, 0, none⟩ v0).setCell ⟨b, 1, none⟩ v1).setCell ⟨b, 2, none⟩ v2).setCell ⟨b, 3, none⟩ v3).setCell ⟨b, 4, none⟩ v4).setCell ⟨b, 5, none⟩ v5).setCell ⟨b, 6, none⟩ v6).setCell ⟨b, 7, none⟩ v7).setCell ⟨b, 8, none⟩ v8) :=
  ((((((((h.setCell (p := ⟨b, 0, none⟩) hb _).setCell (p := ⟨b, 1, none⟩) hb _).setCell (p := ⟨b, 2, none⟩) hb _).setCell (p := ⟨b, 3, none⟩) hb _).setCell (p := ⟨b, 4, none⟩) hb _).setCell (p := ⟨b, 5, none⟩) hb _).setCell (p := ⟨b, 6, none⟩) hb _).setCell (p := ⟨b, 7, none⟩) hb _).setCell (p := ⟨b, 8, none⟩) hb _

set_option maxHeartbeats 4000000 in
set_option maxRecDepth 100000 in
theorem get2_any (k : Ak) (mb : Nat) (t0 : Tr Ak Pn) (w : World) (h0 : In2 w t0) (hc : w.cell? ⟨mb, 0, none⟩ = some (.func (.func 27) #[] #[])) (hr : w.cell? ⟨mb, 1, none⟩ = some (.pointer t0.ad)) :
    Calls Tryz.prog 49 #[.pointer (some ⟨mb, 0, none⟩), k.val] w (Got2 w) := by
  have HN := hide fun (W : World) (h : W.cell? ⟨mb, 0, none⟩ = some (.func (.func 27) #[] #[])) => none2_ok mb 27 W h
  have hb : Below w.heap.size w (bx3 k w) := (((Below.refl _ w).alloc (Nat.le_refl _) _).alloc (by simp) _).alloc (by simp; omega) _
  have hT := h0.below hb
  have c0 := below_cell hb hc
  have c1 := below_cell hb hr
  have b0 : (bx3 k w).heap[w.heap.size]? = some (.cells k.cells.toArray 59 (0, 0)) := (Below.heap_alloc _ _ _ (by simp; omega)).trans ((Below.heap_alloc _ _ _ (by simp)).trans (heap_alloc_new w _))
  have b1 : (bx3 k w).heap[w.heap.size + 1]? = some (.cells #[.string ⟨#[]⟩, .int .i64 0, .int .i64 0, .int .i64 0, .int .i64 0, .int .i64 0, .int .i64 0, .int .i64 0, .int .i64 0] 40 (0, 0)) := (Below.heap_alloc _ _ _ (by simp)).trans (by
    have := heap_alloc_new (w.alloc (.cells k.cells.toArray 59)) (.cells #[.string ⟨#[]⟩, .int .i64 0, .int .i64 0, .int .i64 0, .int .i64 0, .int .i64 0, .int .i64 0, .int .i64 0, .int .i64 0] 40)
    rwa [World.size_alloc] at this)
  have b2 : (bx3 k w).heap[w.heap.size + 1 + 1]? = some (.cells #[.string ⟨#[]⟩, .int .i64 0, .int .i64 0, .int .i64 0, .int .i64 0, .int .i64 0, .int .i64 0, .int .i64 0, .int .i64 0] 40 (0, 0)) := by
    have := heap_alloc_new ((w.alloc (.cells k.cells.toArray 59)).alloc (.cells #[.string ⟨#[]⟩, .int .i64 0, .int .i64 0, .int .i64 0, .int .i64 0, .int .i64 0, .int .i64 0, .int .i64 0, .int .i64 0] 40)) (.cells #[.string ⟨#[]⟩, .int .i64 0, .int .i64 0, .int .i64 0, .int .i64 0, .int .i64 0, .int .i64 0, .int .i64 0, .int .i64 0] 40)
    rwa [World.size_alloc, World.size_alloc] at this
  clear hc hr h0
  go_enter Tryz.func49, Tryz.ntmps49
  go_wp2_with fail
  obtain ⟨W0, hW⟩ : ∃ W0, W0 = bx3 k w := ⟨_, rfl⟩
  (try rw [show ((w.alloc (.cells k.cells.toArray 59)).alloc (.cells #[.string ⟨#[]⟩, .int .i64 0, .int .i64 0, .int .i64 0, .int .i64 0, .int .i64 0, .int .i64 0, .int .i64 0, .int .i64 0] 40)).alloc (.cells #[.string ⟨#[]⟩, .int .i64 0, .int .i64 0, .int .i64 0, .int .i64 0, .int .i64 0, .int .i64 0, .int .i64 0, .int .i64 0] 40) = W0 from hW.symm])
  rw [← hW] at hb hT c0 c1 b0 b1 b2
  clear hW
  (with_reducible refine (unhide HN _ c0).mono ?_)
  rintro e w1 ⟨rfl, rfl⟩
  have HT := hide hT
  have HB0 := hide b0
  have HB1 := hide b1
  have HB2 := hide b2
  have HC0 := hide c0
  have HB := hide hb
  clear hT b0 b1 b2 c0 hb
  go_wp2_with fail
  go_loopg [7, 8] t0.many (fun g p c wr => ∃ (t : Tr Ak Pn) (q : Option Addr), Below W0.heap.size W0 wr ∧ p = .pointer q ∧ t.ad = q ∧ t.many ≤ g ∧ In2 wr t)
  case atStart => exact ⟨t0, t0.ad, Below.refl _ _, rfl, rfl, Nat.le_refl _, HT.out⟩
  case round =>
    obtain ⟨t, q, hbw, rfl, hq, hg, ht⟩ := hrel
    have hb1 : wr.heap[w.heap.size + 1]? = some (.cells #[.string ⟨#[]⟩, .int .i64 0, .int .i64 0, .int .i64 0, .int .i64 0, .int .i64 0, .int .i64 0, .int .i64 0, .int .i64 0] 40 (0, 0)) := (hbw.block _ (Tr.lt_of_some HB1.out)).trans HB1.out
    have hb2 : wr.heap[w.heap.size + 1 + 1]? = some (.cells #[.string ⟨#[]⟩, .int .i64 0, .int .i64 0, .int .i64 0, .int .i64 0, .int .i64 0, .int .i64 0, .int .i64 0, .int .i64 0] 40 (0, 0)) := (hbw.block _ (Tr.lt_of_some HB2.out)).trans HB2.out
    cases t with
    | nil =>
      obtain rfl : none = q := hq
      have y0 : wr.cell? ⟨w.heap.size + 1, 0, none⟩ = some (.string ⟨#[]⟩) := by rw [cell_of_row wr _ _ _ _ (0, 0) hb1]; rfl
      have y1 : wr.cell? ⟨w.heap.size + 1, 1, none⟩ = some (.int .i64 0) := by rw [cell_of_row wr _ _ _ _ (0, 0) hb1]; rfl
      have y2 : wr.cell? ⟨w.heap.size + 1, 2, none⟩ = some (.int .i64 0) := by rw [cell_of_row wr _ _ _ _ (0, 0) hb1]; rfl
      have y3 : wr.cell? ⟨w.heap.size + 1, 3, none⟩ = some (.int .i64 0) := by rw [cell_of_row wr _ _ _ _ (0, 0) hb1]; rfl
      have y4 : wr.cell? ⟨w.heap.size + 1, 4, none⟩ = some (.int .i64 0) := by rw [cell_of_row wr _ _ _ _ (0, 0) hb1]; rfl
      have y5 : wr.cell? ⟨w.heap.size + 1, 5, none⟩ = some (.int .i64 0) := by rw [cell_of_row wr _ _ _ _ (0, 0) hb1]; rfl
      have y6 : wr.cell? ⟨w.heap.size + 1, 6, none⟩ = some (.int .i64 0) := by rw [cell_of_row wr _ _ _ _ (0, 0) hb1]; rfl
      have y7 : wr.cell? ⟨w.heap.size + 1, 7, none⟩ = some (.int .i64 0) := by rw [cell_of_row wr _ _ _ _ (0, 0) hb1]; rfl
      have y8 : wr.cell? ⟨w.heap.size + 1, 8, none⟩ = some (.int .i64 0) := by rw [cell_of_row wr _ _ _ _ (0, 0) hb1]; rfl
      have f0 := frozen_of_block hb1 0
      have f1 := frozen_of_block hb1 1
      have f2 := frozen_of_block hb1 2
      have f3 := frozen_of_block hb1 3
      have f4 := frozen_of_block hb1 4
      have f5 := frozen_of_block hb1 5
      have f6 := frozen_of_block hb1 6
      have f7 := frozen_of_block hb1 7
      have f8 := frozen_of_block hb1 8
      have z0 : wr.cell? ⟨w.heap.size + 1 + 1, 0, none⟩ = some (.string ⟨#[]⟩) := by rw [cell_of_row wr _ _ _ _ (0, 0) hb2]; rfl
      have z1 : wr.cell? ⟨w.heap.size + 1 + 1, 1, none⟩ = some (.int .i64 0) := by rw [cell_of_row wr _ _ _ _ (0, 0) hb2]; rfl
      have z2 : wr.cell? ⟨w.heap.size + 1 + 1, 2, none⟩ = some (.int .i64 0) := by rw [cell_of_row wr _ _ _ _ (0, 0) hb2]; rfl
      have z3 : wr.cell? ⟨w.heap.size + 1 + 1, 3, none⟩ = some (.int .i64 0) := by rw [cell_of_row wr _ _ _ _ (0, 0) hb2]; rfl
      have z4 : wr.cell? ⟨w.heap.size + 1 + 1, 4, none⟩ = some (.int .i64 0) := by rw [cell_of_row wr _ _ _ _ (0, 0) hb2]; rfl
      have z5 : wr.cell? ⟨w.heap.size + 1 + 1, 5, none⟩ = some (.int .i64 0) := by rw [cell_of_row wr _ _ _ _ (0, 0) hb2]; rfl
      have z6 : wr.cell? ⟨w.heap.size + 1 + 1, 6, none⟩ = some (.int .i64 0) := by rw [cell_of_row wr _ _ _ _ (0, 0) hb2]; rfl
      have z7 : wr.cell? ⟨w.heap.size + 1 + 1, 7, none⟩ = some (.int .i64 0) := by rw [cell_of_row wr _ _ _ _ (0, 0) hb2]; rfl
      have z8 : wr.cell? ⟨w.heap.size + 1 + 1, 8, none⟩ = some (.int .i64 0) := by rw [cell_of_row wr _ _ _ _ (0, 0) hb2]; rfl
      have HBW := hide (p := Below w.heap.size w wr) (HB.out.trans (hbw.mono HB.out.size))
      clear hb1 hb2 hbw hg ht
      go_wp2_with fail
      exact bodyPost_ret (v := .tuple #[.agg #[.string ⟨#[]⟩, .int .i64 0, .int .i64 0, .int .i64 0, .int .i64 0, .int .i64 0, .int .i64 0, .int .i64 0, .int .i64 0], .bool false]) (by simp [results, Tryz.results49, go_sem, y0, y1, y2, y3, y4, y5, y6, y7, y8]) rfl ⟨⟨⟨#[]⟩, 0, 0, 0, 0, 0, 0, 0, 0⟩, false, rfl, below_set9 HBW.out (Nat.le_succ _) _ _ _ _ _ _ _ _ _⟩
    | node b k' v' l r =>
      obtain rfl : some ⟨b, 0, none⟩ = q := hq
      obtain ⟨c0, c1, c2, c3, c4, c5, c6, c7, c8, c9, c10, c11, c12, c13, _, _⟩ := ht.cells
      have hl : In2 wr l := ht.2.1
      have hr2 : In2 wr r := ht.2.2
      have hg' : l.many + r.many + 1 ≤ gk := hg
      have hb0 : wr.heap[w.heap.size]? = some (.cells k.cells.toArray 59 (0, 0)) := (hbw.block _ (Tr.lt_of_some HB0.out)).trans HB0.out
      have x0 : wr.cell? ⟨w.heap.size, 0, none⟩ = some (.string k.key) := by rw [cell_of_row wr _ _ _ _ (0, 0) hb0]; rfl
      have x1 : wr.cell? ⟨w.heap.size, 1, none⟩ = some (.int .i64 k.s) := by rw [cell_of_row wr _ _ _ _ (0, 0) hb0]; rfl
      have x2 : wr.cell? ⟨w.heap.size, 2, none⟩ = some (.int .i64 k.e) := by rw [cell_of_row wr _ _ _ _ (0, 0) hb0]; rfl
      have m0 : wr.cell? ⟨mb, 0, none⟩ = some (.func (.func 27) #[] #[]) := below_cell hbw HC0.out
      have HBW := hide hbw
      have HL := hide hl
      have HR := hide hr2
      have HY := hide hb1
      have HC := hide fun (W : World) => lastCmp_any k k' W
      clear hb0 hb1 hb2 hbw hg ht hl hr2
      rcases ordA.cases k k' with hs | hs | hs
      · have d0 : acmp k k' < 0 := by omega
        clear hs
        go_wp2_with fail
        go_region_held3 (fun w0 => w0.cell? ⟨b, 0, none⟩ = some (.string k'.key) ∧ w0.cell? ⟨b, 1, none⟩ = some (.int .i64 k'.s) ∧ w0.cell? ⟨b, 2, none⟩ = some (.int .i64 k'.e) ∧ w0.cell? ⟨mb, 0, none⟩ = some (.func (.func 27) #[] #[]) ∧ w0.cell? ⟨w.heap.size, 0, none⟩ = some (.string k.key) ∧ w0.cell? ⟨w.heap.size, 1, none⟩ = some (.int .i64 k.s) ∧ w0.cell? ⟨w.heap.size, 2, none⟩ = some (.int .i64 k.e)) (first | exact ⟨kd c0, kd c1, kd c2, kd m0, kd x0, kd x1, kd x2⟩ | exact ⟨below_cell hc1 (kd c0), below_cell hc1 (kd c1), below_cell hc1 (kd c2), below_cell hc1 (kd m0), below_cell hc1 (kd x0), below_cell hc1 (kd x1), below_cell hc1 (kd x2)⟩)
          ((go_at_call 27; (with_reducible refine (unhide HC _).mono ?_); rintro e W ⟨rfl, hc1⟩))
        have e0 : W.cell? ⟨b, 12, none⟩ = some (.pointer l.ad) := below_cell hc1 (kd c12)
        have HW := hide (p := Below W0.heap.size W0 W) (HBW.out.drew.trans (hc1.mono HBW.out.size))
        have HN := hide (p := In2 W l) (HL.out.drew.below hc1)
        clear hc1
        go_wp2_with fail
        go_roundg l.many
        case measure => omega
        case rel => exact ⟨l, l.ad, HW.out, rfl, rfl, Nat.le_refl _, HN.out⟩
      · have d0 : ¬ (acmp k k' < 0) := by omega
        have d1 : ¬ (0 < acmp k k') := by omega
        clear hs
        go_wp2_with fail
        go_region_held3 (fun w0 => w0.cell? ⟨b, 0, none⟩ = some (.string k'.key) ∧ w0.cell? ⟨b, 1, none⟩ = some (.int .i64 k'.s) ∧ w0.cell? ⟨b, 2, none⟩ = some (.int .i64 k'.e) ∧ w0.cell? ⟨mb, 0, none⟩ = some (.func (.func 27) #[] #[]) ∧ w0.cell? ⟨w.heap.size, 0, none⟩ = some (.string k.key) ∧ w0.cell? ⟨w.heap.size, 1, none⟩ = some (.int .i64 k.s) ∧ w0.cell? ⟨w.heap.size, 2, none⟩ = some (.int .i64 k.e)) (first | exact ⟨kd c0, kd c1, kd c2, kd m0, kd x0, kd x1, kd x2⟩ | exact ⟨below_cell hc1 (kd c0), below_cell hc1 (kd c1), below_cell hc1 (kd c2), below_cell hc1 (kd m0), below_cell hc1 (kd x0), below_cell hc1 (kd x1), below_cell hc1 (kd x2)⟩)
          ((go_at_call 27; (with_reducible refine (unhide HC _).mono ?_); rintro e W ⟨rfl, hc1⟩))
        have hb3 : W.heap[w.heap.size + 1]? = some (.cells #[.string ⟨#[]⟩, .int .i64 0, .int .i64 0, .int .i64 0, .int .i64 0, .int .i64 0, .int .i64 0, .int .i64 0, .int .i64 0] 40 (0, 0)) := (hc1.block _ (Tr.lt_of_some HY.out)).trans HY.out
        have y0 : W.cell? ⟨w.heap.size + 1, 0, none⟩ = some (.string ⟨#[]⟩) := by rw [cell_of_row W _ _ _ _ (0, 0) hb3]; rfl
        have y1 : W.cell? ⟨w.heap.size + 1, 1, none⟩ = some (.int .i64 0) := by rw [cell_of_row W _ _ _ _ (0, 0) hb3]; rfl
        have y2 : W.cell? ⟨w.heap.size + 1, 2, none⟩ = some (.int .i64 0) := by rw [cell_of_row W _ _ _ _ (0, 0) hb3]; rfl
        have y3 : W.cell? ⟨w.heap.size + 1, 3, none⟩ = some (.int .i64 0) := by rw [cell_of_row W _ _ _ _ (0, 0) hb3]; rfl
        have y4 : W.cell? ⟨w.heap.size + 1, 4, none⟩ = some (.int .i64 0) := by rw [cell_of_row W _ _ _ _ (0, 0) hb3]; rfl
        have y5 : W.cell? ⟨w.heap.size + 1, 5, none⟩ = some (.int .i64 0) := by rw [cell_of_row W _ _ _ _ (0, 0) hb3]; rfl
        have y6 : W.cell? ⟨w.heap.size + 1, 6, none⟩ = some (.int .i64 0) := by rw [cell_of_row W _ _ _ _ (0, 0) hb3]; rfl
        have y7 : W.cell? ⟨w.heap.size + 1, 7, none⟩ = some (.int .i64 0) := by rw [cell_of_row W _ _ _ _ (0, 0) hb3]; rfl
        have y8 : W.cell? ⟨w.heap.size + 1, 8, none⟩ = some (.int .i64 0) := by rw [cell_of_row W _ _ _ _ (0, 0) hb3]; rfl
        have f0 := frozen_of_block hb3 0
        have f1 := frozen_of_block hb3 1
        have f2 := frozen_of_block hb3 2
        have f3 := frozen_of_block hb3 3
        have f4 := frozen_of_block hb3 4
        have f5 := frozen_of_block hb3 5
        have f6 := frozen_of_block hb3 6
        have f7 := frozen_of_block hb3 7
        have f8 := frozen_of_block hb3 8
        have z0 : W.cell? ⟨b, 3, none⟩ = some (.string v'.key) := below_cell hc1 (kd c3)
        have z1 : W.cell? ⟨b, 4, none⟩ = some (.int .i64 v'.s) := below_cell hc1 (kd c4)
        have z2 : W.cell? ⟨b, 5, none⟩ = some (.int .i64 v'.e) := below_cell hc1 (kd c5)
        have z3 : W.cell? ⟨b, 6, none⟩ = some (.int .i64 v'.kind) := below_cell hc1 (kd c6)
        have z4 : W.cell? ⟨b, 7, none⟩ = some (.int .i64 v'.nth) := below_cell hc1 (kd c7)
        have z5 : W.cell? ⟨b, 8, none⟩ = some (.int .i64 v'.count) := below_cell hc1 (kd c8)
        have z6 : W.cell? ⟨b, 9, none⟩ = some (.int .i64 v'.sum) := below_cell hc1 (kd c9)
        have z7 : W.cell? ⟨b, 10, none⟩ = some (.int .i64 v'.min) := below_cell hc1 (kd c10)
        have z8 : W.cell? ⟨b, 11, none⟩ = some (.int .i64 v'.max) := below_cell hc1 (kd c11)
        have HW := hide (p := Below w.heap.size w W) (HB.out.trans ((HBW.out.drew.trans (hc1.mono HBW.out.size)).mono HB.out.size))
        clear hc1 hb3
        go_wp2_with fail
        exact bodyPost_ret (v := .tuple #[v'.val, .bool true]) (by simp [results, Tryz.results49, go_sem, y0, y1, y2, y3, y4, y5, y6, y7, y8]) rfl ⟨v', true, rfl, below_set9 HW.out (Nat.le_succ _) _ _ _ _ _ _ _ _ _⟩
      · have d0 : ¬ (acmp k k' < 0) := by omega
        have d1 : 0 < acmp k k' := by omega
        clear hs
        go_wp2_with fail
        go_region_held3 (fun w0 => w0.cell? ⟨b, 0, none⟩ = some (.string k'.key) ∧ w0.cell? ⟨b, 1, none⟩ = some (.int .i64 k'.s) ∧ w0.cell? ⟨b, 2, none⟩ = some (.int .i64 k'.e) ∧ w0.cell? ⟨mb, 0, none⟩ = some (.func (.func 27) #[] #[]) ∧ w0.cell? ⟨w.heap.size, 0, none⟩ = some (.string k.key) ∧ w0.cell? ⟨w.heap.size, 1, none⟩ = some (.int .i64 k.s) ∧ w0.cell? ⟨w.heap.size, 2, none⟩ = some (.int .i64 k.e)) (first | exact ⟨kd c0, kd c1, kd c2, kd m0, kd x0, kd x1, kd x2⟩ | exact ⟨below_cell hc1 (kd c0), below_cell hc1 (kd c1), below_cell hc1 (kd c2), below_cell hc1 (kd m0), below_cell hc1 (kd x0), below_cell hc1 (kd x1), below_cell hc1 (kd x2)⟩)
          ((go_at_call 27; (with_reducible refine (unhide HC _).mono ?_); rintro e W ⟨rfl, hc1⟩))
        have e0 : W.cell? ⟨b, 13, none⟩ = some (.pointer r.ad) := below_cell hc1 (kd c13)
        have HW := hide (p := Below W0.heap.size W0 W) (HBW.out.drew.trans (hc1.mono HBW.out.size))
        have HN := hide (p := In2 W r) (HR.out.drew.below hc1)
        clear hc1
        go_wp2_with fail
        go_roundg r.many
        case measure => omega
        case rel => exact ⟨r, r.ad, HW.out, rfl, rfl, Nat.le_refl _, HN.out⟩
end Go.Proofs.YtciahchpdmajbaaGreatDoor
