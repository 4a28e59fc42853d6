/- put, of the map of last panes: by induction on the tree. (By put2_tpl.py.) -/
import Derived.Test.YtciahchpdmajbaaGreatDoorEven2c
namespace Go.Proofs.YtciahchpdmajbaaGreatDoor
open Go.RowKit
attribute [local go_sem ↓] Go.wp_at_zero Go.wp_at_succ

/-- What a tree's list is with a key laid: by the tree's own order. -/
def Tr.put2 (k : Ak) (v : Pn) : Tr Ak Pn → List (Ak × Pn)
  | .nil => [(k, v)]
  | .node _ k' v' l r => if acmp k k' < 0 then l.put2 k v ++ (k', v') :: r.list else if 0 < acmp k k' then l.list ++ (k', v') :: r.put2 k v else l.list ++ (k', v) :: r.list
theorem Tr.put2_length (k : Ak) (v : Pn) (t : Tr Ak Pn) : (t.put2 k v).length ≤ t.many + 1 := by
  induction t with
  | nil => simp [Tr.put2]
  | node b k' v' l r hl hr =>
    have h1 := l.many_list
    have h2 := r.many_list
    unfold Tr.put2
    split
    · simp only [List.length_append, List.length_cons, Tr.many]; omega
    · split
      · simp only [List.length_append, List.length_cons, Tr.many]; omega
      · simp only [List.length_append, List.length_cons, Tr.many]; omega

set_option maxHeartbeats 4000000 in
set_option maxRecDepth 100000 in
theorem put2_lt (k : Ak) (v : Pn) (k' : Ak) (v' : Pn) (b mb : Nat) (l r : Tr Ak Pn) (w : World) (hh : In2 w (Tr.node b k' v' l r)) (hm : l.many + r.many ≤ 10000) (hc : w.cell? ⟨mb, 0, none⟩ = some (.func (.func 27) #[] #[])) (hs : acmp k k' = -1)
    (ih : ∀ w : World, In2 w l → w.cell? ⟨mb, 0, none⟩ = some (.func (.func 27) #[] #[]) → Calls Tryz.prog 51 #[.pointer (some ⟨mb, 0, none⟩), .pointer l.ad, k.val, v.val] w (Made2 w (l.put2 k v)))
    : Calls Tryz.prog 51 #[.pointer (some ⟨mb, 0, none⟩), .pointer (some ⟨b, 0, none⟩), k.val, v.val] w (Made2 w (l.put2 k v ++ (k', v') :: r.list)) := by
  have hhW := hh.below (bx2_below k v w)
  have hb := bx2_below k v w
  have c14 := below_cell (bx2_below k v w) hc
  obtain ⟨x0, x1, x2, x3, x4, x5, x6, x7, x8, x9, x10, x11⟩ := bx2_cells k v w
  obtain ⟨c0, c1, c2, c3, c4, c5, c6, c7, c8, c9, c10, c11, c12, c13, _, _⟩ := In2.cells hhW
  obtain ⟨_, hl, hr⟩ := hhW
  have IH := hide ih
  have d0 : acmp k k' < 0 := by omega
  clear hh hs hc ih
  go_enter Tryz.func51, Tryz.ntmps51
  go_wp2_with fail
  obtain ⟨W0, hW⟩ : ∃ W0, W0 = (w.alloc (.cells k.cells.toArray 59)).alloc (.cells v.cells.toArray 40) := ⟨_, rfl⟩
  (try rw [← hW])
  rw [show bx2 k v w = W0 from hW.symm] at hb hl hr x0 x1 x2 x3 x4 x5 x6 x7 x8 x9 x10 x11 c0 c1 c2 c3 c4 c5 c6 c7 c8 c9 c10 c11 c12 c13 c14
  clear hW
  go_region_held3 (fun w0 => w0.cell? ⟨b, 0, none⟩ = some (.string k'.key) ∧ w0.cell? ⟨b, 1, none⟩ = some (.int .i64 k'.s) ∧ w0.cell? ⟨b, 2, none⟩ = some (.int .i64 k'.e) ∧ w0.cell? ⟨b, 3, none⟩ = some (.string v'.key) ∧ w0.cell? ⟨b, 4, none⟩ = some (.int .i64 v'.s) ∧ w0.cell? ⟨b, 5, none⟩ = some (.int .i64 v'.e) ∧ w0.cell? ⟨b, 6, none⟩ = some (.int .i64 v'.kind) ∧ w0.cell? ⟨b, 7, none⟩ = some (.int .i64 v'.nth) ∧ w0.cell? ⟨b, 8, none⟩ = some (.int .i64 v'.count) ∧ w0.cell? ⟨b, 9, none⟩ = some (.int .i64 v'.sum) ∧ w0.cell? ⟨b, 10, none⟩ = some (.int .i64 v'.min) ∧ w0.cell? ⟨b, 11, none⟩ = some (.int .i64 v'.max) ∧ w0.cell? ⟨b, 12, none⟩ = some (.pointer l.ad) ∧ w0.cell? ⟨b, 13, none⟩ = some (.pointer r.ad) ∧ w0.cell? ⟨mb, 0, none⟩ = some (.func (.func 27) #[] #[]) ∧ w0.cell? ⟨w.heap.size, 0, none⟩ = some (.string k.key) ∧ w0.cell? ⟨w.heap.size, 1, none⟩ = some (.int .i64 k.s) ∧ w0.cell? ⟨w.heap.size, 2, none⟩ = some (.int .i64 k.e) ∧ w0.cell? ⟨w.heap.size + 1, 0, none⟩ = some (.string v.key) ∧ w0.cell? ⟨w.heap.size + 1, 1, none⟩ = some (.int .i64 v.s) ∧ w0.cell? ⟨w.heap.size + 1, 2, none⟩ = some (.int .i64 v.e) ∧ w0.cell? ⟨w.heap.size + 1, 3, none⟩ = some (.int .i64 v.kind) ∧ w0.cell? ⟨w.heap.size + 1, 4, none⟩ = some (.int .i64 v.nth) ∧ w0.cell? ⟨w.heap.size + 1, 5, none⟩ = some (.int .i64 v.count) ∧ w0.cell? ⟨w.heap.size + 1, 6, none⟩ = some (.int .i64 v.sum) ∧ w0.cell? ⟨w.heap.size + 1, 7, none⟩ = some (.int .i64 v.min) ∧ w0.cell? ⟨w.heap.size + 1, 8, none⟩ = some (.int .i64 v.max)) (first | exact ⟨kd c0, kd c1, kd c2, kd c3, kd c4, kd c5, kd c6, kd c7, kd c8, kd c9, kd c10, kd c11, kd c12, kd c13, kd c14, kd x0, kd x1, kd x2, kd x3, kd x4, kd x5, kd x6, kd x7, kd x8, kd x9, kd x10, kd x11⟩ | exact ⟨below_cell hb0 (kd c0), below_cell hb0 (kd c1), below_cell hb0 (kd c2), below_cell hb0 (kd c3), below_cell hb0 (kd c4), below_cell hb0 (kd c5), below_cell hb0 (kd c6), below_cell hb0 (kd c7), below_cell hb0 (kd c8), below_cell hb0 (kd c9), below_cell hb0 (kd c10), below_cell hb0 (kd c11), below_cell hb0 (kd c12), below_cell hb0 (kd c13), below_cell hb0 (kd c14), below_cell hb0 (kd x0), below_cell hb0 (kd x1), below_cell hb0 (kd x2), below_cell hb0 (kd x3), below_cell hb0 (kd x4), below_cell hb0 (kd x5), below_cell hb0 (kd x6), below_cell hb0 (kd x7), below_cell hb0 (kd x8), below_cell hb0 (kd x9), below_cell hb0 (kd x10), below_cell hb0 (kd x11)⟩)
    ((go_at_call 27; (with_reducible refine (lastCmp_any k k' _).mono ?_); rintro e W ⟨rfl, hb0⟩))
  go_wp2_with fail
  have e0 : W.cell? ⟨b, 0, none⟩ = some (.string k'.key) := below_cell hb0 (kd c0)
  have e1 : W.cell? ⟨b, 1, none⟩ = some (.int .i64 k'.s) := below_cell hb0 (kd c1)
  have e2 : W.cell? ⟨b, 2, none⟩ = some (.int .i64 k'.e) := below_cell hb0 (kd c2)
  have e3 : W.cell? ⟨b, 3, none⟩ = some (.string v'.key) := below_cell hb0 (kd c3)
  have e4 : W.cell? ⟨b, 4, none⟩ = some (.int .i64 v'.s) := below_cell hb0 (kd c4)
  have e5 : W.cell? ⟨b, 5, none⟩ = some (.int .i64 v'.e) := below_cell hb0 (kd c5)
  have e6 : W.cell? ⟨b, 6, none⟩ = some (.int .i64 v'.kind) := below_cell hb0 (kd c6)
  have e7 : W.cell? ⟨b, 7, none⟩ = some (.int .i64 v'.nth) := below_cell hb0 (kd c7)
  have e8 : W.cell? ⟨b, 8, none⟩ = some (.int .i64 v'.count) := below_cell hb0 (kd c8)
  have e9 : W.cell? ⟨b, 9, none⟩ = some (.int .i64 v'.sum) := below_cell hb0 (kd c9)
  have e10 : W.cell? ⟨b, 10, none⟩ = some (.int .i64 v'.min) := below_cell hb0 (kd c10)
  have e11 : W.cell? ⟨b, 11, none⟩ = some (.int .i64 v'.max) := below_cell hb0 (kd c11)
  have e12 : W.cell? ⟨b, 12, none⟩ = some (.pointer l.ad) := below_cell hb0 (kd c12)
  have e13 : W.cell? ⟨b, 13, none⟩ = some (.pointer r.ad) := below_cell hb0 (kd c13)
  have e14 : W.cell? ⟨mb, 0, none⟩ = some (.func (.func 27) #[] #[]) := below_cell hb0 (kd c14)
  have y0 : W.cell? ⟨w.heap.size, 0, none⟩ = some (.string k.key) := below_cell hb0 (kd x0)
  have y1 : W.cell? ⟨w.heap.size, 1, none⟩ = some (.int .i64 k.s) := below_cell hb0 (kd x1)
  have y2 : W.cell? ⟨w.heap.size, 2, none⟩ = some (.int .i64 k.e) := below_cell hb0 (kd x2)
  have y3 : W.cell? ⟨w.heap.size + 1, 0, none⟩ = some (.string v.key) := below_cell hb0 (kd x3)
  have y4 : W.cell? ⟨w.heap.size + 1, 1, none⟩ = some (.int .i64 v.s) := below_cell hb0 (kd x4)
  have y5 : W.cell? ⟨w.heap.size + 1, 2, none⟩ = some (.int .i64 v.e) := below_cell hb0 (kd x5)
  have y6 : W.cell? ⟨w.heap.size + 1, 3, none⟩ = some (.int .i64 v.kind) := below_cell hb0 (kd x6)
  have y7 : W.cell? ⟨w.heap.size + 1, 4, none⟩ = some (.int .i64 v.nth) := below_cell hb0 (kd x7)
  have y8 : W.cell? ⟨w.heap.size + 1, 5, none⟩ = some (.int .i64 v.count) := below_cell hb0 (kd x8)
  have y9 : W.cell? ⟨w.heap.size + 1, 6, none⟩ = some (.int .i64 v.sum) := below_cell hb0 (kd x9)
  have y10 : W.cell? ⟨w.heap.size + 1, 7, none⟩ = some (.int .i64 v.min) := below_cell hb0 (kd x10)
  have y11 : W.cell? ⟨w.heap.size + 1, 8, none⟩ = some (.int .i64 v.max) := below_cell hb0 (kd x11)
  have kl : In2 W l := (hl.drew).below hb0
  have kr : In2 W r := (hr.drew).below hb0
  have HB := hide (p := Below w.heap.size w W) (hb.drew.trans (hb0.mono hb.size))
  clear hl hr hb hb0 c0 c1 c2 c3 c4 c5 c6 c7 c8 c9 c10 c11 c12 c13 c14 x0 x1 x2 x3 x4 x5 x6 x7 x8 x9 x10 x11
  have G1 := l.put2_length k v
  go_region_held3 (fun w0 => w0.cell? ⟨b, 0, none⟩ = some (.string k'.key) ∧ w0.cell? ⟨b, 1, none⟩ = some (.int .i64 k'.s) ∧ w0.cell? ⟨b, 2, none⟩ = some (.int .i64 k'.e) ∧ w0.cell? ⟨b, 3, none⟩ = some (.string v'.key) ∧ w0.cell? ⟨b, 4, none⟩ = some (.int .i64 v'.s) ∧ w0.cell? ⟨b, 5, none⟩ = some (.int .i64 v'.e) ∧ w0.cell? ⟨b, 6, none⟩ = some (.int .i64 v'.kind) ∧ w0.cell? ⟨b, 7, none⟩ = some (.int .i64 v'.nth) ∧ w0.cell? ⟨b, 8, none⟩ = some (.int .i64 v'.count) ∧ w0.cell? ⟨b, 9, none⟩ = some (.int .i64 v'.sum) ∧ w0.cell? ⟨b, 10, none⟩ = some (.int .i64 v'.min) ∧ w0.cell? ⟨b, 11, none⟩ = some (.int .i64 v'.max) ∧ w0.cell? ⟨b, 12, none⟩ = some (.pointer l.ad) ∧ w0.cell? ⟨b, 13, none⟩ = some (.pointer r.ad) ∧ w0.cell? ⟨mb, 0, none⟩ = some (.func (.func 27) #[] #[]) ∧ w0.cell? ⟨w.heap.size, 0, none⟩ = some (.string k.key) ∧ w0.cell? ⟨w.heap.size, 1, none⟩ = some (.int .i64 k.s) ∧ w0.cell? ⟨w.heap.size, 2, none⟩ = some (.int .i64 k.e) ∧ w0.cell? ⟨w.heap.size + 1, 0, none⟩ = some (.string v.key) ∧ w0.cell? ⟨w.heap.size + 1, 1, none⟩ = some (.int .i64 v.s) ∧ w0.cell? ⟨w.heap.size + 1, 2, none⟩ = some (.int .i64 v.e) ∧ w0.cell? ⟨w.heap.size + 1, 3, none⟩ = some (.int .i64 v.kind) ∧ w0.cell? ⟨w.heap.size + 1, 4, none⟩ = some (.int .i64 v.nth) ∧ w0.cell? ⟨w.heap.size + 1, 5, none⟩ = some (.int .i64 v.count) ∧ w0.cell? ⟨w.heap.size + 1, 6, none⟩ = some (.int .i64 v.sum) ∧ w0.cell? ⟨w.heap.size + 1, 7, none⟩ = some (.int .i64 v.min) ∧ w0.cell? ⟨w.heap.size + 1, 8, none⟩ = some (.int .i64 v.max)) (first | exact ⟨kd e0, kd e1, kd e2, kd e3, kd e4, kd e5, kd e6, kd e7, kd e8, kd e9, kd e10, kd e11, kd e12, kd e13, kd e14, kd y0, kd y1, kd y2, kd y3, kd y4, kd y5, kd y6, kd y7, kd y8, kd y9, kd y10, kd y11⟩ | exact ⟨below_cell hb1 (kd e0), below_cell hb1 (kd e1), below_cell hb1 (kd e2), below_cell hb1 (kd e3), below_cell hb1 (kd e4), below_cell hb1 (kd e5), below_cell hb1 (kd e6), below_cell hb1 (kd e7), below_cell hb1 (kd e8), below_cell hb1 (kd e9), below_cell hb1 (kd e10), below_cell hb1 (kd e11), below_cell hb1 (kd e12), below_cell hb1 (kd e13), below_cell hb1 (kd e14), below_cell hb1 (kd y0), below_cell hb1 (kd y1), below_cell hb1 (kd y2), below_cell hb1 (kd y3), below_cell hb1 (kd y4), below_cell hb1 (kd y5), below_cell hb1 (kd y6), below_cell hb1 (kd y7), below_cell hb1 (kd y8), below_cell hb1 (kd y9), below_cell hb1 (kd y10), below_cell hb1 (kd y11)⟩ | exact ⟨below_cell hb2 (below_cell hb1 (kd e0)), below_cell hb2 (below_cell hb1 (kd e1)), below_cell hb2 (below_cell hb1 (kd e2)), below_cell hb2 (below_cell hb1 (kd e3)), below_cell hb2 (below_cell hb1 (kd e4)), below_cell hb2 (below_cell hb1 (kd e5)), below_cell hb2 (below_cell hb1 (kd e6)), below_cell hb2 (below_cell hb1 (kd e7)), below_cell hb2 (below_cell hb1 (kd e8)), below_cell hb2 (below_cell hb1 (kd e9)), below_cell hb2 (below_cell hb1 (kd e10)), below_cell hb2 (below_cell hb1 (kd e11)), below_cell hb2 (below_cell hb1 (kd e12)), below_cell hb2 (below_cell hb1 (kd e13)), below_cell hb2 (below_cell hb1 (kd e14)), below_cell hb2 (below_cell hb1 (kd y0)), below_cell hb2 (below_cell hb1 (kd y1)), below_cell hb2 (below_cell hb1 (kd y2)), below_cell hb2 (below_cell hb1 (kd y3)), below_cell hb2 (below_cell hb1 (kd y4)), below_cell hb2 (below_cell hb1 (kd y5)), below_cell hb2 (below_cell hb1 (kd y6)), below_cell hb2 (below_cell hb1 (kd y7)), below_cell hb2 (below_cell hb1 (kd y8)), below_cell hb2 (below_cell hb1 (kd y9)), below_cell hb2 (below_cell hb1 (kd y10)), below_cell hb2 (below_cell hb1 (kd y11))⟩)
    (first | (go_at_call 51; (with_reducible refine (unhide IH _ kl.drew (kd e14)).mono ?_); rintro e w1 ⟨t1, rfl, hi1, hx1, hb1⟩) | (go_at_call 63; (with_reducible refine (even2_any k' v' t1 r _ hi1 (kr.drew.below hb1) (by rw [← t1.many_list, hx1]; omega)).mono ?_); rintro e w2 ⟨t2, rfl, hi2, hx2, hb2⟩))
  go_wp2_with fail
  go_ret
  exact ⟨t2, rfl, hi2, by rw [hx2, hx1], ((unhide HB).drew.trans (hb1.mono (unhide HB).size)).trans (hb2.mono (Nat.le_trans (unhide HB).size hb1.size))⟩

set_option maxHeartbeats 4000000 in
set_option maxRecDepth 100000 in
theorem put2_gt (k : Ak) (v : Pn) (k' : Ak) (v' : Pn) (b mb : Nat) (l r : Tr Ak Pn) (w : World) (hh : In2 w (Tr.node b k' v' l r)) (hm : l.many + r.many ≤ 10000) (hc : w.cell? ⟨mb, 0, none⟩ = some (.func (.func 27) #[] #[])) (hs : acmp k k' = 1)
    (ih : ∀ w : World, In2 w r → w.cell? ⟨mb, 0, none⟩ = some (.func (.func 27) #[] #[]) → Calls Tryz.prog 51 #[.pointer (some ⟨mb, 0, none⟩), .pointer r.ad, k.val, v.val] w (Made2 w (r.put2 k v)))
    : Calls Tryz.prog 51 #[.pointer (some ⟨mb, 0, none⟩), .pointer (some ⟨b, 0, none⟩), k.val, v.val] w (Made2 w (l.list ++ (k', v') :: r.put2 k v)) := by
  have hhW := hh.below (bx2_below k v w)
  have hb := bx2_below k v w
  have c14 := below_cell (bx2_below k v w) hc
  obtain ⟨x0, x1, x2, x3, x4, x5, x6, x7, x8, x9, x10, x11⟩ := bx2_cells k v w
  obtain ⟨c0, c1, c2, c3, c4, c5, c6, c7, c8, c9, c10, c11, c12, c13, _, _⟩ := In2.cells hhW
  obtain ⟨_, hl, hr⟩ := hhW
  have IH := hide ih
  have d0 : 0 < acmp k k' := by omega
  have d1 : ¬ (acmp k k' < 0) := by omega
  clear hh hs hc ih
  go_enter Tryz.func51, Tryz.ntmps51
  go_wp2_with fail
  obtain ⟨W0, hW⟩ : ∃ W0, W0 = (w.alloc (.cells k.cells.toArray 59)).alloc (.cells v.cells.toArray 40) := ⟨_, rfl⟩
  (try rw [← hW])
  rw [show bx2 k v w = W0 from hW.symm] at hb hl hr x0 x1 x2 x3 x4 x5 x6 x7 x8 x9 x10 x11 c0 c1 c2 c3 c4 c5 c6 c7 c8 c9 c10 c11 c12 c13 c14
  clear hW
  go_region_held3 (fun w0 => w0.cell? ⟨b, 0, none⟩ = some (.string k'.key) ∧ w0.cell? ⟨b, 1, none⟩ = some (.int .i64 k'.s) ∧ w0.cell? ⟨b, 2, none⟩ = some (.int .i64 k'.e) ∧ w0.cell? ⟨b, 3, none⟩ = some (.string v'.key) ∧ w0.cell? ⟨b, 4, none⟩ = some (.int .i64 v'.s) ∧ w0.cell? ⟨b, 5, none⟩ = some (.int .i64 v'.e) ∧ w0.cell? ⟨b, 6, none⟩ = some (.int .i64 v'.kind) ∧ w0.cell? ⟨b, 7, none⟩ = some (.int .i64 v'.nth) ∧ w0.cell? ⟨b, 8, none⟩ = some (.int .i64 v'.count) ∧ w0.cell? ⟨b, 9, none⟩ = some (.int .i64 v'.sum) ∧ w0.cell? ⟨b, 10, none⟩ = some (.int .i64 v'.min) ∧ w0.cell? ⟨b, 11, none⟩ = some (.int .i64 v'.max) ∧ w0.cell? ⟨b, 12, none⟩ = some (.pointer l.ad) ∧ w0.cell? ⟨b, 13, none⟩ = some (.pointer r.ad) ∧ w0.cell? ⟨mb, 0, none⟩ = some (.func (.func 27) #[] #[]) ∧ w0.cell? ⟨w.heap.size, 0, none⟩ = some (.string k.key) ∧ w0.cell? ⟨w.heap.size, 1, none⟩ = some (.int .i64 k.s) ∧ w0.cell? ⟨w.heap.size, 2, none⟩ = some (.int .i64 k.e) ∧ w0.cell? ⟨w.heap.size + 1, 0, none⟩ = some (.string v.key) ∧ w0.cell? ⟨w.heap.size + 1, 1, none⟩ = some (.int .i64 v.s) ∧ w0.cell? ⟨w.heap.size + 1, 2, none⟩ = some (.int .i64 v.e) ∧ w0.cell? ⟨w.heap.size + 1, 3, none⟩ = some (.int .i64 v.kind) ∧ w0.cell? ⟨w.heap.size + 1, 4, none⟩ = some (.int .i64 v.nth) ∧ w0.cell? ⟨w.heap.size + 1, 5, none⟩ = some (.int .i64 v.count) ∧ w0.cell? ⟨w.heap.size + 1, 6, none⟩ = some (.int .i64 v.sum) ∧ w0.cell? ⟨w.heap.size + 1, 7, none⟩ = some (.int .i64 v.min) ∧ w0.cell? ⟨w.heap.size + 1, 8, none⟩ = some (.int .i64 v.max)) (first | exact ⟨kd c0, kd c1, kd c2, kd c3, kd c4, kd c5, kd c6, kd c7, kd c8, kd c9, kd c10, kd c11, kd c12, kd c13, kd c14, kd x0, kd x1, kd x2, kd x3, kd x4, kd x5, kd x6, kd x7, kd x8, kd x9, kd x10, kd x11⟩ | exact ⟨below_cell hb0 (kd c0), below_cell hb0 (kd c1), below_cell hb0 (kd c2), below_cell hb0 (kd c3), below_cell hb0 (kd c4), below_cell hb0 (kd c5), below_cell hb0 (kd c6), below_cell hb0 (kd c7), below_cell hb0 (kd c8), below_cell hb0 (kd c9), below_cell hb0 (kd c10), below_cell hb0 (kd c11), below_cell hb0 (kd c12), below_cell hb0 (kd c13), below_cell hb0 (kd c14), below_cell hb0 (kd x0), below_cell hb0 (kd x1), below_cell hb0 (kd x2), below_cell hb0 (kd x3), below_cell hb0 (kd x4), below_cell hb0 (kd x5), below_cell hb0 (kd x6), below_cell hb0 (kd x7), below_cell hb0 (kd x8), below_cell hb0 (kd x9), below_cell hb0 (kd x10), below_cell hb0 (kd x11)⟩)
    ((go_at_call 27; (with_reducible refine (lastCmp_any k k' _).mono ?_); rintro e W ⟨rfl, hb0⟩))
  go_wp2_with fail
  have e0 : W.cell? ⟨b, 0, none⟩ = some (.string k'.key) := below_cell hb0 (kd c0)
  have e1 : W.cell? ⟨b, 1, none⟩ = some (.int .i64 k'.s) := below_cell hb0 (kd c1)
  have e2 : W.cell? ⟨b, 2, none⟩ = some (.int .i64 k'.e) := below_cell hb0 (kd c2)
  have e3 : W.cell? ⟨b, 3, none⟩ = some (.string v'.key) := below_cell hb0 (kd c3)
  have e4 : W.cell? ⟨b, 4, none⟩ = some (.int .i64 v'.s) := below_cell hb0 (kd c4)
  have e5 : W.cell? ⟨b, 5, none⟩ = some (.int .i64 v'.e) := below_cell hb0 (kd c5)
  have e6 : W.cell? ⟨b, 6, none⟩ = some (.int .i64 v'.kind) := below_cell hb0 (kd c6)
  have e7 : W.cell? ⟨b, 7, none⟩ = some (.int .i64 v'.nth) := below_cell hb0 (kd c7)
  have e8 : W.cell? ⟨b, 8, none⟩ = some (.int .i64 v'.count) := below_cell hb0 (kd c8)
  have e9 : W.cell? ⟨b, 9, none⟩ = some (.int .i64 v'.sum) := below_cell hb0 (kd c9)
  have e10 : W.cell? ⟨b, 10, none⟩ = some (.int .i64 v'.min) := below_cell hb0 (kd c10)
  have e11 : W.cell? ⟨b, 11, none⟩ = some (.int .i64 v'.max) := below_cell hb0 (kd c11)
  have e12 : W.cell? ⟨b, 12, none⟩ = some (.pointer l.ad) := below_cell hb0 (kd c12)
  have e13 : W.cell? ⟨b, 13, none⟩ = some (.pointer r.ad) := below_cell hb0 (kd c13)
  have e14 : W.cell? ⟨mb, 0, none⟩ = some (.func (.func 27) #[] #[]) := below_cell hb0 (kd c14)
  have y0 : W.cell? ⟨w.heap.size, 0, none⟩ = some (.string k.key) := below_cell hb0 (kd x0)
  have y1 : W.cell? ⟨w.heap.size, 1, none⟩ = some (.int .i64 k.s) := below_cell hb0 (kd x1)
  have y2 : W.cell? ⟨w.heap.size, 2, none⟩ = some (.int .i64 k.e) := below_cell hb0 (kd x2)
  have y3 : W.cell? ⟨w.heap.size + 1, 0, none⟩ = some (.string v.key) := below_cell hb0 (kd x3)
  have y4 : W.cell? ⟨w.heap.size + 1, 1, none⟩ = some (.int .i64 v.s) := below_cell hb0 (kd x4)
  have y5 : W.cell? ⟨w.heap.size + 1, 2, none⟩ = some (.int .i64 v.e) := below_cell hb0 (kd x5)
  have y6 : W.cell? ⟨w.heap.size + 1, 3, none⟩ = some (.int .i64 v.kind) := below_cell hb0 (kd x6)
  have y7 : W.cell? ⟨w.heap.size + 1, 4, none⟩ = some (.int .i64 v.nth) := below_cell hb0 (kd x7)
  have y8 : W.cell? ⟨w.heap.size + 1, 5, none⟩ = some (.int .i64 v.count) := below_cell hb0 (kd x8)
  have y9 : W.cell? ⟨w.heap.size + 1, 6, none⟩ = some (.int .i64 v.sum) := below_cell hb0 (kd x9)
  have y10 : W.cell? ⟨w.heap.size + 1, 7, none⟩ = some (.int .i64 v.min) := below_cell hb0 (kd x10)
  have y11 : W.cell? ⟨w.heap.size + 1, 8, none⟩ = some (.int .i64 v.max) := below_cell hb0 (kd x11)
  have kl : In2 W l := (hl.drew).below hb0
  have kr : In2 W r := (hr.drew).below hb0
  have HB := hide (p := Below w.heap.size w W) (hb.drew.trans (hb0.mono hb.size))
  clear hl hr hb hb0 c0 c1 c2 c3 c4 c5 c6 c7 c8 c9 c10 c11 c12 c13 c14 x0 x1 x2 x3 x4 x5 x6 x7 x8 x9 x10 x11
  have G1 := r.put2_length k v
  go_region_held3 (fun w0 => w0.cell? ⟨b, 0, none⟩ = some (.string k'.key) ∧ w0.cell? ⟨b, 1, none⟩ = some (.int .i64 k'.s) ∧ w0.cell? ⟨b, 2, none⟩ = some (.int .i64 k'.e) ∧ w0.cell? ⟨b, 3, none⟩ = some (.string v'.key) ∧ w0.cell? ⟨b, 4, none⟩ = some (.int .i64 v'.s) ∧ w0.cell? ⟨b, 5, none⟩ = some (.int .i64 v'.e) ∧ w0.cell? ⟨b, 6, none⟩ = some (.int .i64 v'.kind) ∧ w0.cell? ⟨b, 7, none⟩ = some (.int .i64 v'.nth) ∧ w0.cell? ⟨b, 8, none⟩ = some (.int .i64 v'.count) ∧ w0.cell? ⟨b, 9, none⟩ = some (.int .i64 v'.sum) ∧ w0.cell? ⟨b, 10, none⟩ = some (.int .i64 v'.min) ∧ w0.cell? ⟨b, 11, none⟩ = some (.int .i64 v'.max) ∧ w0.cell? ⟨b, 12, none⟩ = some (.pointer l.ad) ∧ w0.cell? ⟨b, 13, none⟩ = some (.pointer r.ad) ∧ w0.cell? ⟨mb, 0, none⟩ = some (.func (.func 27) #[] #[]) ∧ w0.cell? ⟨w.heap.size, 0, none⟩ = some (.string k.key) ∧ w0.cell? ⟨w.heap.size, 1, none⟩ = some (.int .i64 k.s) ∧ w0.cell? ⟨w.heap.size, 2, none⟩ = some (.int .i64 k.e) ∧ w0.cell? ⟨w.heap.size + 1, 0, none⟩ = some (.string v.key) ∧ w0.cell? ⟨w.heap.size + 1, 1, none⟩ = some (.int .i64 v.s) ∧ w0.cell? ⟨w.heap.size + 1, 2, none⟩ = some (.int .i64 v.e) ∧ w0.cell? ⟨w.heap.size + 1, 3, none⟩ = some (.int .i64 v.kind) ∧ w0.cell? ⟨w.heap.size + 1, 4, none⟩ = some (.int .i64 v.nth) ∧ w0.cell? ⟨w.heap.size + 1, 5, none⟩ = some (.int .i64 v.count) ∧ w0.cell? ⟨w.heap.size + 1, 6, none⟩ = some (.int .i64 v.sum) ∧ w0.cell? ⟨w.heap.size + 1, 7, none⟩ = some (.int .i64 v.min) ∧ w0.cell? ⟨w.heap.size + 1, 8, none⟩ = some (.int .i64 v.max)) (first | exact ⟨kd e0, kd e1, kd e2, kd e3, kd e4, kd e5, kd e6, kd e7, kd e8, kd e9, kd e10, kd e11, kd e12, kd e13, kd e14, kd y0, kd y1, kd y2, kd y3, kd y4, kd y5, kd y6, kd y7, kd y8, kd y9, kd y10, kd y11⟩ | exact ⟨below_cell hb1 (kd e0), below_cell hb1 (kd e1), below_cell hb1 (kd e2), below_cell hb1 (kd e3), below_cell hb1 (kd e4), below_cell hb1 (kd e5), below_cell hb1 (kd e6), below_cell hb1 (kd e7), below_cell hb1 (kd e8), below_cell hb1 (kd e9), below_cell hb1 (kd e10), below_cell hb1 (kd e11), below_cell hb1 (kd e12), below_cell hb1 (kd e13), below_cell hb1 (kd e14), below_cell hb1 (kd y0), below_cell hb1 (kd y1), below_cell hb1 (kd y2), below_cell hb1 (kd y3), below_cell hb1 (kd y4), below_cell hb1 (kd y5), below_cell hb1 (kd y6), below_cell hb1 (kd y7), below_cell hb1 (kd y8), below_cell hb1 (kd y9), below_cell hb1 (kd y10), below_cell hb1 (kd y11)⟩ | exact ⟨below_cell hb2 (below_cell hb1 (kd e0)), below_cell hb2 (below_cell hb1 (kd e1)), below_cell hb2 (below_cell hb1 (kd e2)), below_cell hb2 (below_cell hb1 (kd e3)), below_cell hb2 (below_cell hb1 (kd e4)), below_cell hb2 (below_cell hb1 (kd e5)), below_cell hb2 (below_cell hb1 (kd e6)), below_cell hb2 (below_cell hb1 (kd e7)), below_cell hb2 (below_cell hb1 (kd e8)), below_cell hb2 (below_cell hb1 (kd e9)), below_cell hb2 (below_cell hb1 (kd e10)), below_cell hb2 (below_cell hb1 (kd e11)), below_cell hb2 (below_cell hb1 (kd e12)), below_cell hb2 (below_cell hb1 (kd e13)), below_cell hb2 (below_cell hb1 (kd e14)), below_cell hb2 (below_cell hb1 (kd y0)), below_cell hb2 (below_cell hb1 (kd y1)), below_cell hb2 (below_cell hb1 (kd y2)), below_cell hb2 (below_cell hb1 (kd y3)), below_cell hb2 (below_cell hb1 (kd y4)), below_cell hb2 (below_cell hb1 (kd y5)), below_cell hb2 (below_cell hb1 (kd y6)), below_cell hb2 (below_cell hb1 (kd y7)), below_cell hb2 (below_cell hb1 (kd y8)), below_cell hb2 (below_cell hb1 (kd y9)), below_cell hb2 (below_cell hb1 (kd y10)), below_cell hb2 (below_cell hb1 (kd y11))⟩)
    (first | (go_at_call 51; (with_reducible refine (unhide IH _ kr.drew (kd e14)).mono ?_); rintro e w1 ⟨t1, rfl, hi1, hx1, hb1⟩) | (go_at_call 63; (with_reducible refine (even2_any k' v' l t1 _ (kl.drew.below hb1) hi1 (by rw [← t1.many_list, hx1]; omega)).mono ?_); rintro e w2 ⟨t2, rfl, hi2, hx2, hb2⟩))
  go_wp2_with fail
  go_ret
  exact ⟨t2, rfl, hi2, by rw [hx2, hx1], ((unhide HB).drew.trans (hb1.mono (unhide HB).size)).trans (hb2.mono (Nat.le_trans (unhide HB).size hb1.size))⟩

set_option maxHeartbeats 4000000 in
set_option maxRecDepth 100000 in
theorem put2_eq (k : Ak) (v : Pn) (k' : Ak) (v' : Pn) (b mb : Nat) (l r : Tr Ak Pn) (w : World) (hh : In2 w (Tr.node b k' v' l r)) (hm : l.many + r.many ≤ 10000) (hc : w.cell? ⟨mb, 0, none⟩ = some (.func (.func 27) #[] #[])) (hs : acmp k k' = 0)
    : Calls Tryz.prog 51 #[.pointer (some ⟨mb, 0, none⟩), .pointer (some ⟨b, 0, none⟩), k.val, v.val] w (Made2 w (l.list ++ (k', v) :: r.list)) := by
  have hhW := hh.below (bx2_below k v w)
  have hb := bx2_below k v w
  have c14 := below_cell (bx2_below k v w) hc
  obtain ⟨x0, x1, x2, x3, x4, x5, x6, x7, x8, x9, x10, x11⟩ := bx2_cells k v w
  obtain ⟨c0, c1, c2, c3, c4, c5, c6, c7, c8, c9, c10, c11, c12, c13, _, _⟩ := In2.cells hhW
  obtain ⟨_, hl, hr⟩ := hhW
  have d0 : ¬ (acmp k k' < 0) := by omega
  have d1 : ¬ (0 < acmp k k') := by omega
  clear hh hs hc
  go_enter Tryz.func51, Tryz.ntmps51
  go_wp2_with fail
  obtain ⟨W0, hW⟩ : ∃ W0, W0 = (w.alloc (.cells k.cells.toArray 59)).alloc (.cells v.cells.toArray 40) := ⟨_, rfl⟩
  (try rw [← hW])
  rw [show bx2 k v w = W0 from hW.symm] at hb hl hr x0 x1 x2 x3 x4 x5 x6 x7 x8 x9 x10 x11 c0 c1 c2 c3 c4 c5 c6 c7 c8 c9 c10 c11 c12 c13 c14
  clear hW
  go_region_held3 (fun w0 => w0.cell? ⟨b, 0, none⟩ = some (.string k'.key) ∧ w0.cell? ⟨b, 1, none⟩ = some (.int .i64 k'.s) ∧ w0.cell? ⟨b, 2, none⟩ = some (.int .i64 k'.e) ∧ w0.cell? ⟨b, 3, none⟩ = some (.string v'.key) ∧ w0.cell? ⟨b, 4, none⟩ = some (.int .i64 v'.s) ∧ w0.cell? ⟨b, 5, none⟩ = some (.int .i64 v'.e) ∧ w0.cell? ⟨b, 6, none⟩ = some (.int .i64 v'.kind) ∧ w0.cell? ⟨b, 7, none⟩ = some (.int .i64 v'.nth) ∧ w0.cell? ⟨b, 8, none⟩ = some (.int .i64 v'.count) ∧ w0.cell? ⟨b, 9, none⟩ = some (.int .i64 v'.sum) ∧ w0.cell? ⟨b, 10, none⟩ = some (.int .i64 v'.min) ∧ w0.cell? ⟨b, 11, none⟩ = some (.int .i64 v'.max) ∧ w0.cell? ⟨b, 12, none⟩ = some (.pointer l.ad) ∧ w0.cell? ⟨b, 13, none⟩ = some (.pointer r.ad) ∧ w0.cell? ⟨mb, 0, none⟩ = some (.func (.func 27) #[] #[]) ∧ w0.cell? ⟨w.heap.size, 0, none⟩ = some (.string k.key) ∧ w0.cell? ⟨w.heap.size, 1, none⟩ = some (.int .i64 k.s) ∧ w0.cell? ⟨w.heap.size, 2, none⟩ = some (.int .i64 k.e) ∧ w0.cell? ⟨w.heap.size + 1, 0, none⟩ = some (.string v.key) ∧ w0.cell? ⟨w.heap.size + 1, 1, none⟩ = some (.int .i64 v.s) ∧ w0.cell? ⟨w.heap.size + 1, 2, none⟩ = some (.int .i64 v.e) ∧ w0.cell? ⟨w.heap.size + 1, 3, none⟩ = some (.int .i64 v.kind) ∧ w0.cell? ⟨w.heap.size + 1, 4, none⟩ = some (.int .i64 v.nth) ∧ w0.cell? ⟨w.heap.size + 1, 5, none⟩ = some (.int .i64 v.count) ∧ w0.cell? ⟨w.heap.size + 1, 6, none⟩ = some (.int .i64 v.sum) ∧ w0.cell? ⟨w.heap.size + 1, 7, none⟩ = some (.int .i64 v.min) ∧ w0.cell? ⟨w.heap.size + 1, 8, none⟩ = some (.int .i64 v.max)) (first | exact ⟨kd c0, kd c1, kd c2, kd c3, kd c4, kd c5, kd c6, kd c7, kd c8, kd c9, kd c10, kd c11, kd c12, kd c13, kd c14, kd x0, kd x1, kd x2, kd x3, kd x4, kd x5, kd x6, kd x7, kd x8, kd x9, kd x10, kd x11⟩ | exact ⟨below_cell hb0 (kd c0), below_cell hb0 (kd c1), below_cell hb0 (kd c2), below_cell hb0 (kd c3), below_cell hb0 (kd c4), below_cell hb0 (kd c5), below_cell hb0 (kd c6), below_cell hb0 (kd c7), below_cell hb0 (kd c8), below_cell hb0 (kd c9), below_cell hb0 (kd c10), below_cell hb0 (kd c11), below_cell hb0 (kd c12), below_cell hb0 (kd c13), below_cell hb0 (kd c14), below_cell hb0 (kd x0), below_cell hb0 (kd x1), below_cell hb0 (kd x2), below_cell hb0 (kd x3), below_cell hb0 (kd x4), below_cell hb0 (kd x5), below_cell hb0 (kd x6), below_cell hb0 (kd x7), below_cell hb0 (kd x8), below_cell hb0 (kd x9), below_cell hb0 (kd x10), below_cell hb0 (kd x11)⟩)
    ((go_at_call 27; (with_reducible refine (lastCmp_any k k' _).mono ?_); rintro e W ⟨rfl, hb0⟩))
  go_wp2_with fail
  have e0 : W.cell? ⟨b, 0, none⟩ = some (.string k'.key) := below_cell hb0 (kd c0)
  have e1 : W.cell? ⟨b, 1, none⟩ = some (.int .i64 k'.s) := below_cell hb0 (kd c1)
  have e2 : W.cell? ⟨b, 2, none⟩ = some (.int .i64 k'.e) := below_cell hb0 (kd c2)
  have e3 : W.cell? ⟨b, 3, none⟩ = some (.string v'.key) := below_cell hb0 (kd c3)
  have e4 : W.cell? ⟨b, 4, none⟩ = some (.int .i64 v'.s) := below_cell hb0 (kd c4)
  have e5 : W.cell? ⟨b, 5, none⟩ = some (.int .i64 v'.e) := below_cell hb0 (kd c5)
  have e6 : W.cell? ⟨b, 6, none⟩ = some (.int .i64 v'.kind) := below_cell hb0 (kd c6)
  have e7 : W.cell? ⟨b, 7, none⟩ = some (.int .i64 v'.nth) := below_cell hb0 (kd c7)
  have e8 : W.cell? ⟨b, 8, none⟩ = some (.int .i64 v'.count) := below_cell hb0 (kd c8)
  have e9 : W.cell? ⟨b, 9, none⟩ = some (.int .i64 v'.sum) := below_cell hb0 (kd c9)
  have e10 : W.cell? ⟨b, 10, none⟩ = some (.int .i64 v'.min) := below_cell hb0 (kd c10)
  have e11 : W.cell? ⟨b, 11, none⟩ = some (.int .i64 v'.max) := below_cell hb0 (kd c11)
  have e12 : W.cell? ⟨b, 12, none⟩ = some (.pointer l.ad) := below_cell hb0 (kd c12)
  have e13 : W.cell? ⟨b, 13, none⟩ = some (.pointer r.ad) := below_cell hb0 (kd c13)
  have e14 : W.cell? ⟨mb, 0, none⟩ = some (.func (.func 27) #[] #[]) := below_cell hb0 (kd c14)
  have y0 : W.cell? ⟨w.heap.size, 0, none⟩ = some (.string k.key) := below_cell hb0 (kd x0)
  have y1 : W.cell? ⟨w.heap.size, 1, none⟩ = some (.int .i64 k.s) := below_cell hb0 (kd x1)
  have y2 : W.cell? ⟨w.heap.size, 2, none⟩ = some (.int .i64 k.e) := below_cell hb0 (kd x2)
  have y3 : W.cell? ⟨w.heap.size + 1, 0, none⟩ = some (.string v.key) := below_cell hb0 (kd x3)
  have y4 : W.cell? ⟨w.heap.size + 1, 1, none⟩ = some (.int .i64 v.s) := below_cell hb0 (kd x4)
  have y5 : W.cell? ⟨w.heap.size + 1, 2, none⟩ = some (.int .i64 v.e) := below_cell hb0 (kd x5)
  have y6 : W.cell? ⟨w.heap.size + 1, 3, none⟩ = some (.int .i64 v.kind) := below_cell hb0 (kd x6)
  have y7 : W.cell? ⟨w.heap.size + 1, 4, none⟩ = some (.int .i64 v.nth) := below_cell hb0 (kd x7)
  have y8 : W.cell? ⟨w.heap.size + 1, 5, none⟩ = some (.int .i64 v.count) := below_cell hb0 (kd x8)
  have y9 : W.cell? ⟨w.heap.size + 1, 6, none⟩ = some (.int .i64 v.sum) := below_cell hb0 (kd x9)
  have y10 : W.cell? ⟨w.heap.size + 1, 7, none⟩ = some (.int .i64 v.min) := below_cell hb0 (kd x10)
  have y11 : W.cell? ⟨w.heap.size + 1, 8, none⟩ = some (.int .i64 v.max) := below_cell hb0 (kd x11)
  have kl : In2 W l := (hl.drew).below hb0
  have kr : In2 W r := (hr.drew).below hb0
  have HB := hide (p := Below w.heap.size w W) (hb.drew.trans (hb0.mono hb.size))
  clear hl hr hb hb0 c0 c1 c2 c3 c4 c5 c6 c7 c8 c9 c10 c11 c12 c13 c14 x0 x1 x2 x3 x4 x5 x6 x7 x8 x9 x10 x11
  have G1 : l.many + r.many ≤ 40000 := by omega
  go_region_held3 (fun w0 => w0.cell? ⟨b, 0, none⟩ = some (.string k'.key) ∧ w0.cell? ⟨b, 1, none⟩ = some (.int .i64 k'.s) ∧ w0.cell? ⟨b, 2, none⟩ = some (.int .i64 k'.e) ∧ w0.cell? ⟨b, 3, none⟩ = some (.string v'.key) ∧ w0.cell? ⟨b, 4, none⟩ = some (.int .i64 v'.s) ∧ w0.cell? ⟨b, 5, none⟩ = some (.int .i64 v'.e) ∧ w0.cell? ⟨b, 6, none⟩ = some (.int .i64 v'.kind) ∧ w0.cell? ⟨b, 7, none⟩ = some (.int .i64 v'.nth) ∧ w0.cell? ⟨b, 8, none⟩ = some (.int .i64 v'.count) ∧ w0.cell? ⟨b, 9, none⟩ = some (.int .i64 v'.sum) ∧ w0.cell? ⟨b, 10, none⟩ = some (.int .i64 v'.min) ∧ w0.cell? ⟨b, 11, none⟩ = some (.int .i64 v'.max) ∧ w0.cell? ⟨b, 12, none⟩ = some (.pointer l.ad) ∧ w0.cell? ⟨b, 13, none⟩ = some (.pointer r.ad) ∧ w0.cell? ⟨mb, 0, none⟩ = some (.func (.func 27) #[] #[]) ∧ w0.cell? ⟨w.heap.size, 0, none⟩ = some (.string k.key) ∧ w0.cell? ⟨w.heap.size, 1, none⟩ = some (.int .i64 k.s) ∧ w0.cell? ⟨w.heap.size, 2, none⟩ = some (.int .i64 k.e) ∧ w0.cell? ⟨w.heap.size + 1, 0, none⟩ = some (.string v.key) ∧ w0.cell? ⟨w.heap.size + 1, 1, none⟩ = some (.int .i64 v.s) ∧ w0.cell? ⟨w.heap.size + 1, 2, none⟩ = some (.int .i64 v.e) ∧ w0.cell? ⟨w.heap.size + 1, 3, none⟩ = some (.int .i64 v.kind) ∧ w0.cell? ⟨w.heap.size + 1, 4, none⟩ = some (.int .i64 v.nth) ∧ w0.cell? ⟨w.heap.size + 1, 5, none⟩ = some (.int .i64 v.count) ∧ w0.cell? ⟨w.heap.size + 1, 6, none⟩ = some (.int .i64 v.sum) ∧ w0.cell? ⟨w.heap.size + 1, 7, none⟩ = some (.int .i64 v.min) ∧ w0.cell? ⟨w.heap.size + 1, 8, none⟩ = some (.int .i64 v.max)) (first | exact ⟨kd e0, kd e1, kd e2, kd e3, kd e4, kd e5, kd e6, kd e7, kd e8, kd e9, kd e10, kd e11, kd e12, kd e13, kd e14, kd y0, kd y1, kd y2, kd y3, kd y4, kd y5, kd y6, kd y7, kd y8, kd y9, kd y10, kd y11⟩ | exact ⟨below_cell hb1 (kd e0), below_cell hb1 (kd e1), below_cell hb1 (kd e2), below_cell hb1 (kd e3), below_cell hb1 (kd e4), below_cell hb1 (kd e5), below_cell hb1 (kd e6), below_cell hb1 (kd e7), below_cell hb1 (kd e8), below_cell hb1 (kd e9), below_cell hb1 (kd e10), below_cell hb1 (kd e11), below_cell hb1 (kd e12), below_cell hb1 (kd e13), below_cell hb1 (kd e14), below_cell hb1 (kd y0), below_cell hb1 (kd y1), below_cell hb1 (kd y2), below_cell hb1 (kd y3), below_cell hb1 (kd y4), below_cell hb1 (kd y5), below_cell hb1 (kd y6), below_cell hb1 (kd y7), below_cell hb1 (kd y8), below_cell hb1 (kd y9), below_cell hb1 (kd y10), below_cell hb1 (kd y11)⟩)
    ((go_at_call 62; (with_reducible refine (with2_any k' v l r _ kl.drew kr.drew G1).mono ?_); rintro e w1 ⟨b1, rfl, hi1, hb1⟩))
  go_wp2_with fail
  go_ret
  exact ⟨_, rfl, hi1, by simp [Tr.list], (unhide HB).drew.trans (hb1.mono (unhide HB).size)⟩

end Go.Proofs.YtciahchpdmajbaaGreatDoor
