/- even, of the map of last panes: the branches that turn twice, and the whole. (By even2_tpl.py.) -/
import Derived.Test.YtciahchpdmajbaaGreatDoorEven2b
namespace Go.Proofs.YtciahchpdmajbaaGreatDoor
open Go.RowKit
attribute [local go_sem ↓] Go.wp_at_zero Go.wp_at_succ

set_option maxHeartbeats 4000000 in
set_option maxRecDepth 100000 in
theorem even2_left2 (k : Ak) (v : Pn) (kl : Ak) (vl : Pn) (km : Ak) (vm : Pn) (bl bm : Nat) (ml mr ll r : Tr Ak Pn) (w : World) (hh : In2 w (Tr.node bl kl vl ll (Tr.node bm km vm ml mr))) (ho : In2 w r) (hm : ml.many + mr.many + ll.many + r.many ≤ 30000) (h1 : r.high + 1 < (Tr.node bl kl vl ll (Tr.node bm km vm ml mr)).high) (h2 : ll.high < (Tr.node bm km vm ml mr).high) :
    Calls Tryz.prog 63 #[k.val, v.val, .pointer (some ⟨bl, 0, none⟩), .pointer r.ad] w (Made2 w ((Tr.node bl kl vl ll (Tr.node bm km vm ml mr)).list ++ (k, v) :: r.list)) := by
  have q0 := ml.high_le
  have q1 := mr.high_le
  have q2 := ll.high_le
  have q3 := r.high_le
  have hhW := hh.below (bx2_below k v w)
  have hoW := ho.below (bx2_below k v w)
  have hb := bx2_below k v w
  obtain ⟨x0, x1, x2, x3, x4, x5, x6, x7, x8, x9, x10, x11⟩ := bx2_cells k v w
  obtain ⟨c0, c1, c2, c3, c4, c5, c6, c7, c8, c9, c10, c11, c12, c13, c14, c15⟩ := In2.cells hhW
  obtain ⟨_, hll, hfar⟩ := hhW
  obtain ⟨m0, m1, m2, m3, m4, m5, m6, m7, m8, m9, m10, m11, m12, m13, m14, m15⟩ := In2.cells hfar
  obtain ⟨_, hml, hmr⟩ := hfar
  have d7 := Tr.high_le (Tr.node bl kl vl ll (Tr.node bm km vm ml mr))
  simp only [Tr.many] at d7
  obtain ⟨hs, hhs⟩ : ∃ hs : Nat, hs = (Tr.node bl kl vl ll (Tr.node bm km vm ml mr)).high := ⟨_, rfl⟩
  rw [← hhs] at h1 d7 c14
  clear hhs
  have d0 : (r.high : Int) + 1 < (hs : Int) := by omega
  have d8 : (hs : Int) ≤ 60000 := by omega
  clear d7
  obtain ⟨hf, hhf⟩ : ∃ hf : Nat, hf = (Tr.node bm km vm ml mr).high := ⟨_, rfl⟩
  rw [← hhf] at h2 m14
  clear hhf
  have d3 : ¬ ((hf : Int) ≤ (ll.high : Int)) := by omega
  replace c13 : (bx2 k v w).cell? ⟨bl, 13, none⟩ = some (.pointer (some ⟨bm, 0, none⟩)) := c13
  clear hh ho h1 h2 c15 m15
  go_enter Tryz.func63, Tryz.ntmps63
  go_wp2_with fail
  obtain ⟨W0, hW⟩ : ∃ W0, W0 = (w.alloc (.cells k.cells.toArray 59)).alloc (.cells v.cells.toArray 40) := ⟨_, rfl⟩
  (try rw [← hW])
  rw [show bx2 k v w = W0 from hW.symm] at hoW hb hll hml hmr x0 x1 x2 x3 x4 x5 x6 x7 x8 x9 x10 x11 c0 c1 c2 c3 c4 c5 c6 c7 c8 c9 c10 c11 c12 c13 c14 m0 m1 m2 m3 m4 m5 m6 m7 m8 m9 m10 m11 m12 m13 m14
  clear hW
  have HT := hide (high2_node bl (hs : Int) W0 c14)
  have HO := hide (high2_tr r W0 hoW)
  have HFar := hide fun m : Nat => high2_node bm (hf : Int) (W0.drewN m) m14
  have HNear := hide fun m : Nat => high2_tr ll (W0.drewN m) (hll.drewN _)
  (first | (with_reducible refine (unhide HT).mono ?_) | (with_reducible refine (unhide HO).mono ?_))
  rintro e w1 ⟨rfl, rfl⟩
  go_wp2_with (go_at_call 80; (first | (with_reducible refine (unhide HO).mono ?_) | (with_reducible refine (unhide HT).mono ?_)); rintro e w1 ⟨rfl, rfl⟩)
  go_quiet ((go_at_call 80; (first | (with_reducible exact still_first (unhide HNear _)) | (with_reducible exact still_first (unhide HFar _)))))
  go_wp2_with fail
  obtain ⟨W, hW⟩ : ∃ W, W = W0.drewN nq := ⟨_, rfl⟩
  rw [← hW]
  have e0 : W.cell? ⟨bl, 0, none⟩ = some (.string kl.key) := by rw [hW]; exact c0
  have e1 : W.cell? ⟨bl, 1, none⟩ = some (.int .i64 kl.s) := by rw [hW]; exact c1
  have e2 : W.cell? ⟨bl, 2, none⟩ = some (.int .i64 kl.e) := by rw [hW]; exact c2
  have e3 : W.cell? ⟨bl, 3, none⟩ = some (.string vl.key) := by rw [hW]; exact c3
  have e4 : W.cell? ⟨bl, 4, none⟩ = some (.int .i64 vl.s) := by rw [hW]; exact c4
  have e5 : W.cell? ⟨bl, 5, none⟩ = some (.int .i64 vl.e) := by rw [hW]; exact c5
  have e6 : W.cell? ⟨bl, 6, none⟩ = some (.int .i64 vl.kind) := by rw [hW]; exact c6
  have e7 : W.cell? ⟨bl, 7, none⟩ = some (.int .i64 vl.nth) := by rw [hW]; exact c7
  have e8 : W.cell? ⟨bl, 8, none⟩ = some (.int .i64 vl.count) := by rw [hW]; exact c8
  have e9 : W.cell? ⟨bl, 9, none⟩ = some (.int .i64 vl.sum) := by rw [hW]; exact c9
  have e10 : W.cell? ⟨bl, 10, none⟩ = some (.int .i64 vl.min) := by rw [hW]; exact c10
  have e11 : W.cell? ⟨bl, 11, none⟩ = some (.int .i64 vl.max) := by rw [hW]; exact c11
  have e12 : W.cell? ⟨bl, 12, none⟩ = some (.pointer ll.ad) := by rw [hW]; exact c12
  have e13 : W.cell? ⟨bl, 13, none⟩ = some (.pointer (some ⟨bm, 0, none⟩)) := by rw [hW]; exact c13
  have f0 : W.cell? ⟨bm, 0, none⟩ = some (.string km.key) := by rw [hW]; exact m0
  have f1 : W.cell? ⟨bm, 1, none⟩ = some (.int .i64 km.s) := by rw [hW]; exact m1
  have f2 : W.cell? ⟨bm, 2, none⟩ = some (.int .i64 km.e) := by rw [hW]; exact m2
  have f3 : W.cell? ⟨bm, 3, none⟩ = some (.string vm.key) := by rw [hW]; exact m3
  have f4 : W.cell? ⟨bm, 4, none⟩ = some (.int .i64 vm.s) := by rw [hW]; exact m4
  have f5 : W.cell? ⟨bm, 5, none⟩ = some (.int .i64 vm.e) := by rw [hW]; exact m5
  have f6 : W.cell? ⟨bm, 6, none⟩ = some (.int .i64 vm.kind) := by rw [hW]; exact m6
  have f7 : W.cell? ⟨bm, 7, none⟩ = some (.int .i64 vm.nth) := by rw [hW]; exact m7
  have f8 : W.cell? ⟨bm, 8, none⟩ = some (.int .i64 vm.count) := by rw [hW]; exact m8
  have f9 : W.cell? ⟨bm, 9, none⟩ = some (.int .i64 vm.sum) := by rw [hW]; exact m9
  have f10 : W.cell? ⟨bm, 10, none⟩ = some (.int .i64 vm.min) := by rw [hW]; exact m10
  have f11 : W.cell? ⟨bm, 11, none⟩ = some (.int .i64 vm.max) := by rw [hW]; exact m11
  have f12 : W.cell? ⟨bm, 12, none⟩ = some (.pointer ml.ad) := by rw [hW]; exact m12
  have f13 : W.cell? ⟨bm, 13, none⟩ = some (.pointer mr.ad) := by rw [hW]; exact m13
  have y0 : W.cell? ⟨w.heap.size, 0, none⟩ = some (.string k.key) := by rw [hW]; exact x0
  have y1 : W.cell? ⟨w.heap.size, 1, none⟩ = some (.int .i64 k.s) := by rw [hW]; exact x1
  have y2 : W.cell? ⟨w.heap.size, 2, none⟩ = some (.int .i64 k.e) := by rw [hW]; exact x2
  have y3 : W.cell? ⟨w.heap.size + 1, 0, none⟩ = some (.string v.key) := by rw [hW]; exact x3
  have y4 : W.cell? ⟨w.heap.size + 1, 1, none⟩ = some (.int .i64 v.s) := by rw [hW]; exact x4
  have y5 : W.cell? ⟨w.heap.size + 1, 2, none⟩ = some (.int .i64 v.e) := by rw [hW]; exact x5
  have y6 : W.cell? ⟨w.heap.size + 1, 3, none⟩ = some (.int .i64 v.kind) := by rw [hW]; exact x6
  have y7 : W.cell? ⟨w.heap.size + 1, 4, none⟩ = some (.int .i64 v.nth) := by rw [hW]; exact x7
  have y8 : W.cell? ⟨w.heap.size + 1, 5, none⟩ = some (.int .i64 v.count) := by rw [hW]; exact x8
  have y9 : W.cell? ⟨w.heap.size + 1, 6, none⟩ = some (.int .i64 v.sum) := by rw [hW]; exact x9
  have y10 : W.cell? ⟨w.heap.size + 1, 7, none⟩ = some (.int .i64 v.min) := by rw [hW]; exact x10
  have y11 : W.cell? ⟨w.heap.size + 1, 8, none⟩ = some (.int .i64 v.max) := by rw [hW]; exact x11
  have ktll : In2 W ll := by rw [hW]; exact hll.drewN _
  have ktml : In2 W ml := by rw [hW]; exact hml.drewN _
  have ktmr : In2 W mr := by rw [hW]; exact hmr.drewN _
  have ktr : In2 W r := by rw [hW]; exact hoW.drewN _
  have hbW : Below w.heap.size w W := by rw [hW]; exact below_drewN hb _
  clear hW hoW hb hll hml hmr c0 c1 c2 c3 c4 c5 c6 c7 c8 c9 c10 c11 c12 c13 c14 m0 m1 m2 m3 m4 m5 m6 m7 m8 m9 m10 m11 m12 m13 m14 x0 x1 x2 x3 x4 x5 x6 x7 x8 x9 x10 x11
  have HB := hide hbW
  clear hbW
  go_wp2_with fail
  have g1 : ll.many + ml.many ≤ 40000 := by omega
  have g2 : mr.many + r.many ≤ 40000 := by omega
  have g3 : ∀ b1 b2 : Nat, (Tr.node b1 kl vl ll ml).many + (Tr.node b2 k v mr r).many ≤ 40000 := fun b1 b2 => by simp only [Tr.many]; omega
  go_region_held3 (fun w0 => w0.cell? ⟨bl, 0, none⟩ = some (.string kl.key) ∧ w0.cell? ⟨bl, 1, none⟩ = some (.int .i64 kl.s) ∧ w0.cell? ⟨bl, 2, none⟩ = some (.int .i64 kl.e) ∧ w0.cell? ⟨bl, 3, none⟩ = some (.string vl.key) ∧ w0.cell? ⟨bl, 4, none⟩ = some (.int .i64 vl.s) ∧ w0.cell? ⟨bl, 5, none⟩ = some (.int .i64 vl.e) ∧ w0.cell? ⟨bl, 6, none⟩ = some (.int .i64 vl.kind) ∧ w0.cell? ⟨bl, 7, none⟩ = some (.int .i64 vl.nth) ∧ w0.cell? ⟨bl, 8, none⟩ = some (.int .i64 vl.count) ∧ w0.cell? ⟨bl, 9, none⟩ = some (.int .i64 vl.sum) ∧ w0.cell? ⟨bl, 10, none⟩ = some (.int .i64 vl.min) ∧ w0.cell? ⟨bl, 11, none⟩ = some (.int .i64 vl.max) ∧ w0.cell? ⟨bl, 12, none⟩ = some (.pointer ll.ad) ∧ w0.cell? ⟨bl, 13, none⟩ = some (.pointer (some ⟨bm, 0, none⟩)) ∧ w0.cell? ⟨bm, 0, none⟩ = some (.string km.key) ∧ w0.cell? ⟨bm, 1, none⟩ = some (.int .i64 km.s) ∧ w0.cell? ⟨bm, 2, none⟩ = some (.int .i64 km.e) ∧ w0.cell? ⟨bm, 3, none⟩ = some (.string vm.key) ∧ w0.cell? ⟨bm, 4, none⟩ = some (.int .i64 vm.s) ∧ w0.cell? ⟨bm, 5, none⟩ = some (.int .i64 vm.e) ∧ w0.cell? ⟨bm, 6, none⟩ = some (.int .i64 vm.kind) ∧ w0.cell? ⟨bm, 7, none⟩ = some (.int .i64 vm.nth) ∧ w0.cell? ⟨bm, 8, none⟩ = some (.int .i64 vm.count) ∧ w0.cell? ⟨bm, 9, none⟩ = some (.int .i64 vm.sum) ∧ w0.cell? ⟨bm, 10, none⟩ = some (.int .i64 vm.min) ∧ w0.cell? ⟨bm, 11, none⟩ = some (.int .i64 vm.max) ∧ w0.cell? ⟨bm, 12, none⟩ = some (.pointer ml.ad) ∧ w0.cell? ⟨bm, 13, none⟩ = some (.pointer mr.ad) ∧ w0.cell? ⟨w.heap.size, 0, none⟩ = some (.string k.key) ∧ w0.cell? ⟨w.heap.size, 1, none⟩ = some (.int .i64 k.s) ∧ w0.cell? ⟨w.heap.size, 2, none⟩ = some (.int .i64 k.e) ∧ w0.cell? ⟨w.heap.size + 1, 0, none⟩ = some (.string v.key) ∧ w0.cell? ⟨w.heap.size + 1, 1, none⟩ = some (.int .i64 v.s) ∧ w0.cell? ⟨w.heap.size + 1, 2, none⟩ = some (.int .i64 v.e) ∧ w0.cell? ⟨w.heap.size + 1, 3, none⟩ = some (.int .i64 v.kind) ∧ w0.cell? ⟨w.heap.size + 1, 4, none⟩ = some (.int .i64 v.nth) ∧ w0.cell? ⟨w.heap.size + 1, 5, none⟩ = some (.int .i64 v.count) ∧ w0.cell? ⟨w.heap.size + 1, 6, none⟩ = some (.int .i64 v.sum) ∧ w0.cell? ⟨w.heap.size + 1, 7, none⟩ = some (.int .i64 v.min) ∧ w0.cell? ⟨w.heap.size + 1, 8, none⟩ = some (.int .i64 v.max)) (first | exact ⟨kd e0, kd e1, kd e2, kd e3, kd e4, kd e5, kd e6, kd e7, kd e8, kd e9, kd e10, kd e11, kd e12, kd e13, kd f0, kd f1, kd f2, kd f3, kd f4, kd f5, kd f6, kd f7, kd f8, kd f9, kd f10, kd f11, kd f12, kd f13, kd y0, kd y1, kd y2, kd y3, kd y4, kd y5, kd y6, kd y7, kd y8, kd y9, kd y10, kd y11⟩ | exact ⟨below_cell hb1 (kd e0), below_cell hb1 (kd e1), below_cell hb1 (kd e2), below_cell hb1 (kd e3), below_cell hb1 (kd e4), below_cell hb1 (kd e5), below_cell hb1 (kd e6), below_cell hb1 (kd e7), below_cell hb1 (kd e8), below_cell hb1 (kd e9), below_cell hb1 (kd e10), below_cell hb1 (kd e11), below_cell hb1 (kd e12), below_cell hb1 (kd e13), below_cell hb1 (kd f0), below_cell hb1 (kd f1), below_cell hb1 (kd f2), below_cell hb1 (kd f3), below_cell hb1 (kd f4), below_cell hb1 (kd f5), below_cell hb1 (kd f6), below_cell hb1 (kd f7), below_cell hb1 (kd f8), below_cell hb1 (kd f9), below_cell hb1 (kd f10), below_cell hb1 (kd f11), below_cell hb1 (kd f12), below_cell hb1 (kd f13), below_cell hb1 (kd y0), below_cell hb1 (kd y1), below_cell hb1 (kd y2), below_cell hb1 (kd y3), below_cell hb1 (kd y4), below_cell hb1 (kd y5), below_cell hb1 (kd y6), below_cell hb1 (kd y7), below_cell hb1 (kd y8), below_cell hb1 (kd y9), below_cell hb1 (kd y10), below_cell hb1 (kd y11)⟩ | exact ⟨below_cell hb2 (below_cell hb1 (kd e0)), below_cell hb2 (below_cell hb1 (kd e1)), below_cell hb2 (below_cell hb1 (kd e2)), below_cell hb2 (below_cell hb1 (kd e3)), below_cell hb2 (below_cell hb1 (kd e4)), below_cell hb2 (below_cell hb1 (kd e5)), below_cell hb2 (below_cell hb1 (kd e6)), below_cell hb2 (below_cell hb1 (kd e7)), below_cell hb2 (below_cell hb1 (kd e8)), below_cell hb2 (below_cell hb1 (kd e9)), below_cell hb2 (below_cell hb1 (kd e10)), below_cell hb2 (below_cell hb1 (kd e11)), below_cell hb2 (below_cell hb1 (kd e12)), below_cell hb2 (below_cell hb1 (kd e13)), below_cell hb2 (below_cell hb1 (kd f0)), below_cell hb2 (below_cell hb1 (kd f1)), below_cell hb2 (below_cell hb1 (kd f2)), below_cell hb2 (below_cell hb1 (kd f3)), below_cell hb2 (below_cell hb1 (kd f4)), below_cell hb2 (below_cell hb1 (kd f5)), below_cell hb2 (below_cell hb1 (kd f6)), below_cell hb2 (below_cell hb1 (kd f7)), below_cell hb2 (below_cell hb1 (kd f8)), below_cell hb2 (below_cell hb1 (kd f9)), below_cell hb2 (below_cell hb1 (kd f10)), below_cell hb2 (below_cell hb1 (kd f11)), below_cell hb2 (below_cell hb1 (kd f12)), below_cell hb2 (below_cell hb1 (kd f13)), below_cell hb2 (below_cell hb1 (kd y0)), below_cell hb2 (below_cell hb1 (kd y1)), below_cell hb2 (below_cell hb1 (kd y2)), below_cell hb2 (below_cell hb1 (kd y3)), below_cell hb2 (below_cell hb1 (kd y4)), below_cell hb2 (below_cell hb1 (kd y5)), below_cell hb2 (below_cell hb1 (kd y6)), below_cell hb2 (below_cell hb1 (kd y7)), below_cell hb2 (below_cell hb1 (kd y8)), below_cell hb2 (below_cell hb1 (kd y9)), below_cell hb2 (below_cell hb1 (kd y10)), below_cell hb2 (below_cell hb1 (kd y11))⟩ | exact ⟨below_cell hb3 (below_cell hb2 (below_cell hb1 (kd e0))), below_cell hb3 (below_cell hb2 (below_cell hb1 (kd e1))), below_cell hb3 (below_cell hb2 (below_cell hb1 (kd e2))), below_cell hb3 (below_cell hb2 (below_cell hb1 (kd e3))), below_cell hb3 (below_cell hb2 (below_cell hb1 (kd e4))), below_cell hb3 (below_cell hb2 (below_cell hb1 (kd e5))), below_cell hb3 (below_cell hb2 (below_cell hb1 (kd e6))), below_cell hb3 (below_cell hb2 (below_cell hb1 (kd e7))), below_cell hb3 (below_cell hb2 (below_cell hb1 (kd e8))), below_cell hb3 (below_cell hb2 (below_cell hb1 (kd e9))), below_cell hb3 (below_cell hb2 (below_cell hb1 (kd e10))), below_cell hb3 (below_cell hb2 (below_cell hb1 (kd e11))), below_cell hb3 (below_cell hb2 (below_cell hb1 (kd e12))), below_cell hb3 (below_cell hb2 (below_cell hb1 (kd e13))), below_cell hb3 (below_cell hb2 (below_cell hb1 (kd f0))), below_cell hb3 (below_cell hb2 (below_cell hb1 (kd f1))), below_cell hb3 (below_cell hb2 (below_cell hb1 (kd f2))), below_cell hb3 (below_cell hb2 (below_cell hb1 (kd f3))), below_cell hb3 (below_cell hb2 (below_cell hb1 (kd f4))), below_cell hb3 (below_cell hb2 (below_cell hb1 (kd f5))), below_cell hb3 (below_cell hb2 (below_cell hb1 (kd f6))), below_cell hb3 (below_cell hb2 (below_cell hb1 (kd f7))), below_cell hb3 (below_cell hb2 (below_cell hb1 (kd f8))), below_cell hb3 (below_cell hb2 (below_cell hb1 (kd f9))), below_cell hb3 (below_cell hb2 (below_cell hb1 (kd f10))), below_cell hb3 (below_cell hb2 (below_cell hb1 (kd f11))), below_cell hb3 (below_cell hb2 (below_cell hb1 (kd f12))), below_cell hb3 (below_cell hb2 (below_cell hb1 (kd f13))), below_cell hb3 (below_cell hb2 (below_cell hb1 (kd y0))), below_cell hb3 (below_cell hb2 (below_cell hb1 (kd y1))), below_cell hb3 (below_cell hb2 (below_cell hb1 (kd y2))), below_cell hb3 (below_cell hb2 (below_cell hb1 (kd y3))), below_cell hb3 (below_cell hb2 (below_cell hb1 (kd y4))), below_cell hb3 (below_cell hb2 (below_cell hb1 (kd y5))), below_cell hb3 (below_cell hb2 (below_cell hb1 (kd y6))), below_cell hb3 (below_cell hb2 (below_cell hb1 (kd y7))), below_cell hb3 (below_cell hb2 (below_cell hb1 (kd y8))), below_cell hb3 (below_cell hb2 (below_cell hb1 (kd y9))), below_cell hb3 (below_cell hb2 (below_cell hb1 (kd y10))), below_cell hb3 (below_cell hb2 (below_cell hb1 (kd y11)))⟩)
    (first | (go_at_call 62; (with_reducible refine (with2_open (k := kl) (v := vl) (p := ll.ad) (q := ml.ad) ll ml _ rfl rfl ktll.drew ktml.drew g1).mono ?_); rintro e w1 ⟨b1, rfl, hi1, hb1⟩) | (go_at_call 62; (with_reducible refine (with2_open (k := k) (v := v) (p := mr.ad) (q := r.ad) mr r _ rfl rfl (ktmr.drew.below hb1) (ktr.drew.below hb1) g2).mono ?_); rintro e w2 ⟨b2, rfl, hi2, hb2⟩) | (go_at_call 62; (with_reducible refine (with2_open (k := km) (v := vm) (p := (some ⟨b1, 0, none⟩)) (q := (some ⟨b2, 0, none⟩)) (Tr.node b1 kl vl ll ml) (Tr.node b2 k v mr r) _ Tr.ad_node Tr.ad_node (hi1.below hb2) hi2 (g3 b1 b2)).mono ?_); rintro e w3 ⟨b3, rfl, hi3, hb3⟩))
  go_wp2_with fail
  go_ret
  have z1 := ((unhide HB).drew).trans (hb1.mono (unhide HB).size)
  have z2 := z1.trans (hb2.mono z1.size)
  exact ⟨Tr.node b3 km vm (Tr.node b1 kl vl ll ml) (Tr.node b2 k v mr r), rfl, hi3, by simp [Tr.list], z2.trans (hb3.mono z2.size)⟩

set_option maxHeartbeats 4000000 in
set_option maxRecDepth 100000 in
theorem even2_right2 (k : Ak) (v : Pn) (kr : Ak) (vr : Pn) (km : Ak) (vm : Pn) (br bm : Nat) (ml mr rr l : Tr Ak Pn) (w : World) (hh : In2 w (Tr.node br kr vr (Tr.node bm km vm ml mr) rr)) (ho : In2 w l) (hm : ml.many + mr.many + rr.many + l.many ≤ 30000) (h1 : l.high + 1 < (Tr.node br kr vr (Tr.node bm km vm ml mr) rr).high) (h2 : rr.high < (Tr.node bm km vm ml mr).high) :
    Calls Tryz.prog 63 #[k.val, v.val, .pointer l.ad, .pointer (some ⟨br, 0, none⟩)] w (Made2 w (l.list ++ (k, v) :: (Tr.node br kr vr (Tr.node bm km vm ml mr) rr).list)) := by
  have q0 := ml.high_le
  have q1 := mr.high_le
  have q2 := rr.high_le
  have q3 := l.high_le
  have hhW := hh.below (bx2_below k v w)
  have hoW := ho.below (bx2_below k v w)
  have hb := bx2_below k v w
  obtain ⟨x0, x1, x2, x3, x4, x5, x6, x7, x8, x9, x10, x11⟩ := bx2_cells k v w
  obtain ⟨c0, c1, c2, c3, c4, c5, c6, c7, c8, c9, c10, c11, c12, c13, c14, c15⟩ := In2.cells hhW
  obtain ⟨_, hfar, hrr⟩ := hhW
  obtain ⟨m0, m1, m2, m3, m4, m5, m6, m7, m8, m9, m10, m11, m12, m13, m14, m15⟩ := In2.cells hfar
  obtain ⟨_, hml, hmr⟩ := hfar
  have d7 := Tr.high_le (Tr.node br kr vr (Tr.node bm km vm ml mr) rr)
  simp only [Tr.many] at d7
  obtain ⟨hs, hhs⟩ : ∃ hs : Nat, hs = (Tr.node br kr vr (Tr.node bm km vm ml mr) rr).high := ⟨_, rfl⟩
  rw [← hhs] at h1 d7 c14
  clear hhs
  have d0 : (l.high : Int) + 1 < (hs : Int) := by omega
  have d8 : (hs : Int) ≤ 60000 := by omega
  clear d7
  have d9 : ¬ ((hs : Int) + 1 < (l.high : Int)) := by omega
  obtain ⟨hf, hhf⟩ : ∃ hf : Nat, hf = (Tr.node bm km vm ml mr).high := ⟨_, rfl⟩
  rw [← hhf] at h2 m14
  clear hhf
  have d3 : ¬ ((hf : Int) ≤ (rr.high : Int)) := by omega
  replace c12 : (bx2 k v w).cell? ⟨br, 12, none⟩ = some (.pointer (some ⟨bm, 0, none⟩)) := c12
  clear hh ho h1 h2 c15 m15
  go_enter Tryz.func63, Tryz.ntmps63
  go_wp2_with fail
  obtain ⟨W0, hW⟩ : ∃ W0, W0 = (w.alloc (.cells k.cells.toArray 59)).alloc (.cells v.cells.toArray 40) := ⟨_, rfl⟩
  (try rw [← hW])
  rw [show bx2 k v w = W0 from hW.symm] at hoW hb hrr hml hmr x0 x1 x2 x3 x4 x5 x6 x7 x8 x9 x10 x11 c0 c1 c2 c3 c4 c5 c6 c7 c8 c9 c10 c11 c12 c13 c14 m0 m1 m2 m3 m4 m5 m6 m7 m8 m9 m10 m11 m12 m13 m14
  clear hW
  have HT := hide (high2_node br (hs : Int) W0 c14)
  have HO := hide (high2_tr l W0 hoW)
  have HFar := hide fun m : Nat => high2_node bm (hf : Int) (W0.drewN m) m14
  have HNear := hide fun m : Nat => high2_tr rr (W0.drewN m) (hrr.drewN _)
  (first | (with_reducible refine (unhide HT).mono ?_) | (with_reducible refine (unhide HO).mono ?_))
  rintro e w1 ⟨rfl, rfl⟩
  go_wp2_with (go_at_call 80; (first | (with_reducible refine (unhide HO).mono ?_) | (with_reducible refine (unhide HT).mono ?_)); rintro e w1 ⟨rfl, rfl⟩)
  go_quiet ((go_at_call 80; (first | (with_reducible exact still_first (unhide HNear _)) | (with_reducible exact still_first (unhide HFar _)))))
  go_wp2_with fail
  obtain ⟨W, hW⟩ : ∃ W, W = W0.drewN nq := ⟨_, rfl⟩
  rw [← hW]
  have e0 : W.cell? ⟨br, 0, none⟩ = some (.string kr.key) := by rw [hW]; exact c0
  have e1 : W.cell? ⟨br, 1, none⟩ = some (.int .i64 kr.s) := by rw [hW]; exact c1
  have e2 : W.cell? ⟨br, 2, none⟩ = some (.int .i64 kr.e) := by rw [hW]; exact c2
  have e3 : W.cell? ⟨br, 3, none⟩ = some (.string vr.key) := by rw [hW]; exact c3
  have e4 : W.cell? ⟨br, 4, none⟩ = some (.int .i64 vr.s) := by rw [hW]; exact c4
  have e5 : W.cell? ⟨br, 5, none⟩ = some (.int .i64 vr.e) := by rw [hW]; exact c5
  have e6 : W.cell? ⟨br, 6, none⟩ = some (.int .i64 vr.kind) := by rw [hW]; exact c6
  have e7 : W.cell? ⟨br, 7, none⟩ = some (.int .i64 vr.nth) := by rw [hW]; exact c7
  have e8 : W.cell? ⟨br, 8, none⟩ = some (.int .i64 vr.count) := by rw [hW]; exact c8
  have e9 : W.cell? ⟨br, 9, none⟩ = some (.int .i64 vr.sum) := by rw [hW]; exact c9
  have e10 : W.cell? ⟨br, 10, none⟩ = some (.int .i64 vr.min) := by rw [hW]; exact c10
  have e11 : W.cell? ⟨br, 11, none⟩ = some (.int .i64 vr.max) := by rw [hW]; exact c11
  have e12 : W.cell? ⟨br, 12, none⟩ = some (.pointer (some ⟨bm, 0, none⟩)) := by rw [hW]; exact c12
  have e13 : W.cell? ⟨br, 13, none⟩ = some (.pointer rr.ad) := by rw [hW]; exact c13
  have f0 : W.cell? ⟨bm, 0, none⟩ = some (.string km.key) := by rw [hW]; exact m0
  have f1 : W.cell? ⟨bm, 1, none⟩ = some (.int .i64 km.s) := by rw [hW]; exact m1
  have f2 : W.cell? ⟨bm, 2, none⟩ = some (.int .i64 km.e) := by rw [hW]; exact m2
  have f3 : W.cell? ⟨bm, 3, none⟩ = some (.string vm.key) := by rw [hW]; exact m3
  have f4 : W.cell? ⟨bm, 4, none⟩ = some (.int .i64 vm.s) := by rw [hW]; exact m4
  have f5 : W.cell? ⟨bm, 5, none⟩ = some (.int .i64 vm.e) := by rw [hW]; exact m5
  have f6 : W.cell? ⟨bm, 6, none⟩ = some (.int .i64 vm.kind) := by rw [hW]; exact m6
  have f7 : W.cell? ⟨bm, 7, none⟩ = some (.int .i64 vm.nth) := by rw [hW]; exact m7
  have f8 : W.cell? ⟨bm, 8, none⟩ = some (.int .i64 vm.count) := by rw [hW]; exact m8
  have f9 : W.cell? ⟨bm, 9, none⟩ = some (.int .i64 vm.sum) := by rw [hW]; exact m9
  have f10 : W.cell? ⟨bm, 10, none⟩ = some (.int .i64 vm.min) := by rw [hW]; exact m10
  have f11 : W.cell? ⟨bm, 11, none⟩ = some (.int .i64 vm.max) := by rw [hW]; exact m11
  have f12 : W.cell? ⟨bm, 12, none⟩ = some (.pointer ml.ad) := by rw [hW]; exact m12
  have f13 : W.cell? ⟨bm, 13, none⟩ = some (.pointer mr.ad) := by rw [hW]; exact m13
  have y0 : W.cell? ⟨w.heap.size, 0, none⟩ = some (.string k.key) := by rw [hW]; exact x0
  have y1 : W.cell? ⟨w.heap.size, 1, none⟩ = some (.int .i64 k.s) := by rw [hW]; exact x1
  have y2 : W.cell? ⟨w.heap.size, 2, none⟩ = some (.int .i64 k.e) := by rw [hW]; exact x2
  have y3 : W.cell? ⟨w.heap.size + 1, 0, none⟩ = some (.string v.key) := by rw [hW]; exact x3
  have y4 : W.cell? ⟨w.heap.size + 1, 1, none⟩ = some (.int .i64 v.s) := by rw [hW]; exact x4
  have y5 : W.cell? ⟨w.heap.size + 1, 2, none⟩ = some (.int .i64 v.e) := by rw [hW]; exact x5
  have y6 : W.cell? ⟨w.heap.size + 1, 3, none⟩ = some (.int .i64 v.kind) := by rw [hW]; exact x6
  have y7 : W.cell? ⟨w.heap.size + 1, 4, none⟩ = some (.int .i64 v.nth) := by rw [hW]; exact x7
  have y8 : W.cell? ⟨w.heap.size + 1, 5, none⟩ = some (.int .i64 v.count) := by rw [hW]; exact x8
  have y9 : W.cell? ⟨w.heap.size + 1, 6, none⟩ = some (.int .i64 v.sum) := by rw [hW]; exact x9
  have y10 : W.cell? ⟨w.heap.size + 1, 7, none⟩ = some (.int .i64 v.min) := by rw [hW]; exact x10
  have y11 : W.cell? ⟨w.heap.size + 1, 8, none⟩ = some (.int .i64 v.max) := by rw [hW]; exact x11
  have ktrr : In2 W rr := by rw [hW]; exact hrr.drewN _
  have ktml : In2 W ml := by rw [hW]; exact hml.drewN _
  have ktmr : In2 W mr := by rw [hW]; exact hmr.drewN _
  have ktl : In2 W l := by rw [hW]; exact hoW.drewN _
  have hbW : Below w.heap.size w W := by rw [hW]; exact below_drewN hb _
  clear hW hoW hb hrr hml hmr c0 c1 c2 c3 c4 c5 c6 c7 c8 c9 c10 c11 c12 c13 c14 m0 m1 m2 m3 m4 m5 m6 m7 m8 m9 m10 m11 m12 m13 m14 x0 x1 x2 x3 x4 x5 x6 x7 x8 x9 x10 x11
  have HB := hide hbW
  clear hbW
  go_wp2_with fail
  have g1 : l.many + ml.many ≤ 40000 := by omega
  have g2 : mr.many + rr.many ≤ 40000 := by omega
  have g3 : ∀ b1 b2 : Nat, (Tr.node b1 k v l ml).many + (Tr.node b2 kr vr mr rr).many ≤ 40000 := fun b1 b2 => by simp only [Tr.many]; omega
  go_region_held3 (fun w0 => w0.cell? ⟨br, 0, none⟩ = some (.string kr.key) ∧ w0.cell? ⟨br, 1, none⟩ = some (.int .i64 kr.s) ∧ w0.cell? ⟨br, 2, none⟩ = some (.int .i64 kr.e) ∧ w0.cell? ⟨br, 3, none⟩ = some (.string vr.key) ∧ w0.cell? ⟨br, 4, none⟩ = some (.int .i64 vr.s) ∧ w0.cell? ⟨br, 5, none⟩ = some (.int .i64 vr.e) ∧ w0.cell? ⟨br, 6, none⟩ = some (.int .i64 vr.kind) ∧ w0.cell? ⟨br, 7, none⟩ = some (.int .i64 vr.nth) ∧ w0.cell? ⟨br, 8, none⟩ = some (.int .i64 vr.count) ∧ w0.cell? ⟨br, 9, none⟩ = some (.int .i64 vr.sum) ∧ w0.cell? ⟨br, 10, none⟩ = some (.int .i64 vr.min) ∧ w0.cell? ⟨br, 11, none⟩ = some (.int .i64 vr.max) ∧ w0.cell? ⟨br, 12, none⟩ = some (.pointer (some ⟨bm, 0, none⟩)) ∧ w0.cell? ⟨br, 13, none⟩ = some (.pointer rr.ad) ∧ w0.cell? ⟨bm, 0, none⟩ = some (.string km.key) ∧ w0.cell? ⟨bm, 1, none⟩ = some (.int .i64 km.s) ∧ w0.cell? ⟨bm, 2, none⟩ = some (.int .i64 km.e) ∧ w0.cell? ⟨bm, 3, none⟩ = some (.string vm.key) ∧ w0.cell? ⟨bm, 4, none⟩ = some (.int .i64 vm.s) ∧ w0.cell? ⟨bm, 5, none⟩ = some (.int .i64 vm.e) ∧ w0.cell? ⟨bm, 6, none⟩ = some (.int .i64 vm.kind) ∧ w0.cell? ⟨bm, 7, none⟩ = some (.int .i64 vm.nth) ∧ w0.cell? ⟨bm, 8, none⟩ = some (.int .i64 vm.count) ∧ w0.cell? ⟨bm, 9, none⟩ = some (.int .i64 vm.sum) ∧ w0.cell? ⟨bm, 10, none⟩ = some (.int .i64 vm.min) ∧ w0.cell? ⟨bm, 11, none⟩ = some (.int .i64 vm.max) ∧ w0.cell? ⟨bm, 12, none⟩ = some (.pointer ml.ad) ∧ w0.cell? ⟨bm, 13, none⟩ = some (.pointer mr.ad) ∧ w0.cell? ⟨w.heap.size, 0, none⟩ = some (.string k.key) ∧ w0.cell? ⟨w.heap.size, 1, none⟩ = some (.int .i64 k.s) ∧ w0.cell? ⟨w.heap.size, 2, none⟩ = some (.int .i64 k.e) ∧ w0.cell? ⟨w.heap.size + 1, 0, none⟩ = some (.string v.key) ∧ w0.cell? ⟨w.heap.size + 1, 1, none⟩ = some (.int .i64 v.s) ∧ w0.cell? ⟨w.heap.size + 1, 2, none⟩ = some (.int .i64 v.e) ∧ w0.cell? ⟨w.heap.size + 1, 3, none⟩ = some (.int .i64 v.kind) ∧ w0.cell? ⟨w.heap.size + 1, 4, none⟩ = some (.int .i64 v.nth) ∧ w0.cell? ⟨w.heap.size + 1, 5, none⟩ = some (.int .i64 v.count) ∧ w0.cell? ⟨w.heap.size + 1, 6, none⟩ = some (.int .i64 v.sum) ∧ w0.cell? ⟨w.heap.size + 1, 7, none⟩ = some (.int .i64 v.min) ∧ w0.cell? ⟨w.heap.size + 1, 8, none⟩ = some (.int .i64 v.max)) (first | exact ⟨kd e0, kd e1, kd e2, kd e3, kd e4, kd e5, kd e6, kd e7, kd e8, kd e9, kd e10, kd e11, kd e12, kd e13, kd f0, kd f1, kd f2, kd f3, kd f4, kd f5, kd f6, kd f7, kd f8, kd f9, kd f10, kd f11, kd f12, kd f13, kd y0, kd y1, kd y2, kd y3, kd y4, kd y5, kd y6, kd y7, kd y8, kd y9, kd y10, kd y11⟩ | exact ⟨below_cell hb1 (kd e0), below_cell hb1 (kd e1), below_cell hb1 (kd e2), below_cell hb1 (kd e3), below_cell hb1 (kd e4), below_cell hb1 (kd e5), below_cell hb1 (kd e6), below_cell hb1 (kd e7), below_cell hb1 (kd e8), below_cell hb1 (kd e9), below_cell hb1 (kd e10), below_cell hb1 (kd e11), below_cell hb1 (kd e12), below_cell hb1 (kd e13), below_cell hb1 (kd f0), below_cell hb1 (kd f1), below_cell hb1 (kd f2), below_cell hb1 (kd f3), below_cell hb1 (kd f4), below_cell hb1 (kd f5), below_cell hb1 (kd f6), below_cell hb1 (kd f7), below_cell hb1 (kd f8), below_cell hb1 (kd f9), below_cell hb1 (kd f10), below_cell hb1 (kd f11), below_cell hb1 (kd f12), below_cell hb1 (kd f13), below_cell hb1 (kd y0), below_cell hb1 (kd y1), below_cell hb1 (kd y2), below_cell hb1 (kd y3), below_cell hb1 (kd y4), below_cell hb1 (kd y5), below_cell hb1 (kd y6), below_cell hb1 (kd y7), below_cell hb1 (kd y8), below_cell hb1 (kd y9), below_cell hb1 (kd y10), below_cell hb1 (kd y11)⟩ | exact ⟨below_cell hb2 (below_cell hb1 (kd e0)), below_cell hb2 (below_cell hb1 (kd e1)), below_cell hb2 (below_cell hb1 (kd e2)), below_cell hb2 (below_cell hb1 (kd e3)), below_cell hb2 (below_cell hb1 (kd e4)), below_cell hb2 (below_cell hb1 (kd e5)), below_cell hb2 (below_cell hb1 (kd e6)), below_cell hb2 (below_cell hb1 (kd e7)), below_cell hb2 (below_cell hb1 (kd e8)), below_cell hb2 (below_cell hb1 (kd e9)), below_cell hb2 (below_cell hb1 (kd e10)), below_cell hb2 (below_cell hb1 (kd e11)), below_cell hb2 (below_cell hb1 (kd e12)), below_cell hb2 (below_cell hb1 (kd e13)), below_cell hb2 (below_cell hb1 (kd f0)), below_cell hb2 (below_cell hb1 (kd f1)), below_cell hb2 (below_cell hb1 (kd f2)), below_cell hb2 (below_cell hb1 (kd f3)), below_cell hb2 (below_cell hb1 (kd f4)), below_cell hb2 (below_cell hb1 (kd f5)), below_cell hb2 (below_cell hb1 (kd f6)), below_cell hb2 (below_cell hb1 (kd f7)), below_cell hb2 (below_cell hb1 (kd f8)), below_cell hb2 (below_cell hb1 (kd f9)), below_cell hb2 (below_cell hb1 (kd f10)), below_cell hb2 (below_cell hb1 (kd f11)), below_cell hb2 (below_cell hb1 (kd f12)), below_cell hb2 (below_cell hb1 (kd f13)), below_cell hb2 (below_cell hb1 (kd y0)), below_cell hb2 (below_cell hb1 (kd y1)), below_cell hb2 (below_cell hb1 (kd y2)), below_cell hb2 (below_cell hb1 (kd y3)), below_cell hb2 (below_cell hb1 (kd y4)), below_cell hb2 (below_cell hb1 (kd y5)), below_cell hb2 (below_cell hb1 (kd y6)), below_cell hb2 (below_cell hb1 (kd y7)), below_cell hb2 (below_cell hb1 (kd y8)), below_cell hb2 (below_cell hb1 (kd y9)), below_cell hb2 (below_cell hb1 (kd y10)), below_cell hb2 (below_cell hb1 (kd y11))⟩ | exact ⟨below_cell hb3 (below_cell hb2 (below_cell hb1 (kd e0))), below_cell hb3 (below_cell hb2 (below_cell hb1 (kd e1))), below_cell hb3 (below_cell hb2 (below_cell hb1 (kd e2))), below_cell hb3 (below_cell hb2 (below_cell hb1 (kd e3))), below_cell hb3 (below_cell hb2 (below_cell hb1 (kd e4))), below_cell hb3 (below_cell hb2 (below_cell hb1 (kd e5))), below_cell hb3 (below_cell hb2 (below_cell hb1 (kd e6))), below_cell hb3 (below_cell hb2 (below_cell hb1 (kd e7))), below_cell hb3 (below_cell hb2 (below_cell hb1 (kd e8))), below_cell hb3 (below_cell hb2 (below_cell hb1 (kd e9))), below_cell hb3 (below_cell hb2 (below_cell hb1 (kd e10))), below_cell hb3 (below_cell hb2 (below_cell hb1 (kd e11))), below_cell hb3 (below_cell hb2 (below_cell hb1 (kd e12))), below_cell hb3 (below_cell hb2 (below_cell hb1 (kd e13))), below_cell hb3 (below_cell hb2 (below_cell hb1 (kd f0))), below_cell hb3 (below_cell hb2 (below_cell hb1 (kd f1))), below_cell hb3 (below_cell hb2 (below_cell hb1 (kd f2))), below_cell hb3 (below_cell hb2 (below_cell hb1 (kd f3))), below_cell hb3 (below_cell hb2 (below_cell hb1 (kd f4))), below_cell hb3 (below_cell hb2 (below_cell hb1 (kd f5))), below_cell hb3 (below_cell hb2 (below_cell hb1 (kd f6))), below_cell hb3 (below_cell hb2 (below_cell hb1 (kd f7))), below_cell hb3 (below_cell hb2 (below_cell hb1 (kd f8))), below_cell hb3 (below_cell hb2 (below_cell hb1 (kd f9))), below_cell hb3 (below_cell hb2 (below_cell hb1 (kd f10))), below_cell hb3 (below_cell hb2 (below_cell hb1 (kd f11))), below_cell hb3 (below_cell hb2 (below_cell hb1 (kd f12))), below_cell hb3 (below_cell hb2 (below_cell hb1 (kd f13))), below_cell hb3 (below_cell hb2 (below_cell hb1 (kd y0))), below_cell hb3 (below_cell hb2 (below_cell hb1 (kd y1))), below_cell hb3 (below_cell hb2 (below_cell hb1 (kd y2))), below_cell hb3 (below_cell hb2 (below_cell hb1 (kd y3))), below_cell hb3 (below_cell hb2 (below_cell hb1 (kd y4))), below_cell hb3 (below_cell hb2 (below_cell hb1 (kd y5))), below_cell hb3 (below_cell hb2 (below_cell hb1 (kd y6))), below_cell hb3 (below_cell hb2 (below_cell hb1 (kd y7))), below_cell hb3 (below_cell hb2 (below_cell hb1 (kd y8))), below_cell hb3 (below_cell hb2 (below_cell hb1 (kd y9))), below_cell hb3 (below_cell hb2 (below_cell hb1 (kd y10))), below_cell hb3 (below_cell hb2 (below_cell hb1 (kd y11)))⟩)
    (first | (go_at_call 62; (with_reducible refine (with2_open (k := k) (v := v) (p := l.ad) (q := ml.ad) l ml _ rfl rfl ktl.drew ktml.drew g1).mono ?_); rintro e w1 ⟨b1, rfl, hi1, hb1⟩) | (go_at_call 62; (with_reducible refine (with2_open (k := kr) (v := vr) (p := mr.ad) (q := rr.ad) mr rr _ rfl rfl (ktmr.drew.below hb1) (ktrr.drew.below hb1) g2).mono ?_); rintro e w2 ⟨b2, rfl, hi2, hb2⟩) | (go_at_call 62; (with_reducible refine (with2_open (k := km) (v := vm) (p := (some ⟨b1, 0, none⟩)) (q := (some ⟨b2, 0, none⟩)) (Tr.node b1 k v l ml) (Tr.node b2 kr vr mr rr) _ Tr.ad_node Tr.ad_node (hi1.below hb2) hi2 (g3 b1 b2)).mono ?_); rintro e w3 ⟨b3, rfl, hi3, hb3⟩))
  go_wp2_with fail
  go_ret
  have z1 := ((unhide HB).drew).trans (hb1.mono (unhide HB).size)
  have z2 := z1.trans (hb2.mono z1.size)
  exact ⟨Tr.node b3 km vm (Tr.node b1 k v l ml) (Tr.node b2 kr vr mr rr), rfl, hi3, by simp [Tr.list], z2.trans (hb3.mono z2.size)⟩

/-- even's contract. -/
theorem even2_any (k : Ak) (v : Pn) (l r : Tr Ak Pn) (w : World) (hl : In2 w l) (hr : In2 w r) (hm : l.many + r.many ≤ 20000) :
    Calls Tryz.prog 63 #[k.val, v.val, .pointer l.ad, .pointer r.ad] w (Made2 w (l.list ++ (k, v) :: r.list)) := by
  by_cases h1 : r.high + 1 < l.high
  · obtain ⟨bl, kl, vl, ll, lr, rfl⟩ := Tr.high_pos (t := l) (by omega)
    simp only [Tr.many] at hm
    by_cases h2 : lr.high ≤ ll.high
    · exact even2_left k v kl vl bl ll lr r w hl hr (by omega) h1 h2
    · obtain ⟨bm, km, vm, ml, mr, rfl⟩ := Tr.high_pos (t := lr) (by omega)
      simp only [Tr.many] at hm
      exact even2_left2 k v kl vl km vm bl bm ml mr ll r w hl hr (by omega) h1 (Nat.lt_of_not_le h2)
  · by_cases h3 : l.high + 1 < r.high
    · obtain ⟨br, kr, vr, rl, rr, rfl⟩ := Tr.high_pos (t := r) (by omega)
      simp only [Tr.many] at hm
      by_cases h2 : rl.high ≤ rr.high
      · exact even2_right k v kr vr br rl rr l w hr hl (by omega) h3 h2
      · obtain ⟨bm, km, vm, ml, mr, rfl⟩ := Tr.high_pos (t := rl) (by omega)
        simp only [Tr.many] at hm
        exact even2_right2 k v kr vr km vm br bm ml mr rr l w hr hl (by omega) h3 (Nat.lt_of_not_le h2)
    · exact even2_mid k v l r w hl hr (by omega) (by omega) (by omega)

end Go.Proofs.YtciahchpdmajbaaGreatDoor
