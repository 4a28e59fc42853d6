/- even, of the map of last panes: its boxes; the branch where nothing is turned. -/
import Derived.Test.YtciahchpdmajbaaGreatDoorWith2
namespace Go.Proofs.YtciahchpdmajbaaGreatDoor
open Go.RowKit
attribute [local go_sem ↓] Go.wp_at_zero Go.wp_at_succ

/-- The two struct parameters in their boxes. -/
abbrev bx2 (k : Ak) (v : Pn) (w : World) : World := (w.alloc (.cells k.cells.toArray 59)).alloc (.cells v.cells.toArray 40)
theorem bx2_below (k : Ak) (v : Pn) (w : World) : Below w.heap.size w (bx2 k v w) := ((Below.refl _ w).alloc (Nat.le_refl _) _).alloc (by simp) _
theorem bx2_size (k : Ak) (v : Pn) (w : World) : (bx2 k v w).heap.size = w.heap.size + 1 + 1 := by simp
theorem bx2_cells (k : Ak) (v : Pn) (w : World) : (bx2 k v w).cell? ⟨w.heap.size, 0, none⟩ = some (.string k.key) ∧ (bx2 k v w).cell? ⟨w.heap.size, 1, none⟩ = some (.int .i64 k.s) ∧ (bx2 k v w).cell? ⟨w.heap.size, 2, none⟩ = some (.int .i64 k.e) ∧ (bx2 k v w).cell? ⟨w.heap.size + 1, 0, none⟩ = some (.string v.key) ∧ (bx2 k v w).cell? ⟨w.heap.size + 1, 1, none⟩ = some (.int .i64 v.s) ∧ (bx2 k v w).cell? ⟨w.heap.size + 1, 2, none⟩ = some (.int .i64 v.e) ∧ (bx2 k v w).cell? ⟨w.heap.size + 1, 3, none⟩ = some (.int .i64 v.kind) ∧ (bx2 k v w).cell? ⟨w.heap.size + 1, 4, none⟩ = some (.int .i64 v.nth) ∧ (bx2 k v w).cell? ⟨w.heap.size + 1, 5, none⟩ = some (.int .i64 v.count) ∧ (bx2 k v w).cell? ⟨w.heap.size + 1, 6, none⟩ = some (.int .i64 v.sum) ∧ (bx2 k v w).cell? ⟨w.heap.size + 1, 7, none⟩ = some (.int .i64 v.min) ∧ (bx2 k v w).cell? ⟨w.heap.size + 1, 8, none⟩ = some (.int .i64 v.max) := by
  have h1 : (bx2 k v w).heap[w.heap.size]? = some (.cells k.cells.toArray 59 (0, 0)) := (Below.heap_alloc _ _ _ (by simp)).trans (heap_alloc_new w _)
  have h2 : (bx2 k v w).heap[w.heap.size + 1]? = some (.cells v.cells.toArray 40 (0, 0)) := by
    have := heap_alloc_new (w.alloc (.cells k.cells.toArray 59)) (.cells v.cells.toArray 40)
    rwa [World.size_alloc] at this
  refine ⟨?_, ?_, ?_, ?_, ?_, ?_, ?_, ?_, ?_, ?_, ?_, ?_⟩
  · rw [cell_of_row _ _ _ _ _ (0, 0) h1]; rfl
  · rw [cell_of_row _ _ _ _ _ (0, 0) h1]; rfl
  · rw [cell_of_row _ _ _ _ _ (0, 0) h1]; rfl
  · rw [cell_of_row _ _ _ _ _ (0, 0) h2]; rfl
  · rw [cell_of_row _ _ _ _ _ (0, 0) h2]; rfl
  · rw [cell_of_row _ _ _ _ _ (0, 0) h2]; rfl
  · rw [cell_of_row _ _ _ _ _ (0, 0) h2]; rfl
  · rw [cell_of_row _ _ _ _ _ (0, 0) h2]; rfl
  · rw [cell_of_row _ _ _ _ _ (0, 0) h2]; rfl
  · rw [cell_of_row _ _ _ _ _ (0, 0) h2]; rfl
  · rw [cell_of_row _ _ _ _ _ (0, 0) h2]; rfl
  · rw [cell_of_row _ _ _ _ _ (0, 0) h2]; rfl

/-- What a function that makes a tree gives. -/
def Made2 (w : World) (xs : List (Ak × Pn)) (e : Ending) (w' : World) : Prop := ∃ t : Tr Ak Pn, e = .returned (.pointer t.ad) ∧ In2 w' t ∧ t.list = xs ∧ Below w.heap.size w w'
theorem Done2.made {k : Ak} {v : Pn} {l r : Tr Ak Pn} {w : World} {e : Ending} {w' : World} (h : Done2 k v l r w e w') : Made2 w (l.list ++ (k, v) :: r.list) e w' := by
  obtain ⟨b, rfl, h1, h2⟩ := h
  exact ⟨_, rfl, h1, rfl, h2⟩

set_option maxHeartbeats 1000000 in
set_option maxRecDepth 100000 in
theorem even2_mid (k : Ak) (v : Pn) (l r : Tr Ak Pn) (w : World) (hl : In2 w l) (hr : In2 w r) (hm : l.many + r.many ≤ 30000) (h1 : l.high ≤ r.high + 1) (h2 : r.high ≤ l.high + 1) :
    Calls Tryz.prog 63 #[k.val, v.val, .pointer l.ad, .pointer r.ad] w (Made2 w (l.list ++ (k, v) :: r.list)) := by
  have q1 := l.high_le
  have q2 := r.high_le
  have d1 : ¬ ((r.high : Int) + 1 < (l.high : Int)) := by omega
  have d2 : ¬ ((l.high : Int) + 1 < (r.high : Int)) := by omega
  have hlW := hl.below (bx2_below k v w)
  have hrW := hr.below (bx2_below k v w)
  have hb := bx2_below k v w
  obtain ⟨e0, e1, e2, e3, e4, e5, e6, e7, e8, e9, e10, e11⟩ := bx2_cells k v w
  go_enter Tryz.func63, Tryz.ntmps63
  go_wp2_with fail
  obtain ⟨W, hW⟩ : ∃ W, W = (w.alloc (.cells k.cells.toArray 59)).alloc (.cells v.cells.toArray 40) := ⟨_, rfl⟩
  (try rw [← hW])
  rw [show bx2 k v w = W from hW.symm] at hlW hrW hb e0 e1 e2 e3 e4 e5 e6 e7 e8 e9 e10 e11
  clear hW
  have HB := hide hb
  have HL := hide (high2_tr l W hlW)
  have HR := hide (high2_tr r W hrW)
  have HW := hide (with2_any k v l r W hlW hrW (by omega))
  clear hl hr hlW hrW hb h1 h2
  (with_reducible refine (unhide HL).mono ?_)
  rintro e w1 ⟨rfl, rfl⟩
  go_wp2_with (first | (go_at_call 80; (first | (with_reducible refine (unhide HR).mono ?_) | (with_reducible refine (unhide HL).mono ?_)); rintro e w1 ⟨rfl, rfl⟩) | (go_at_call 62; (with_reducible refine (unhide HW).mono ?_); rintro e w1 ⟨b, rfl, hi, hb1⟩))
  go_ret
  exact ⟨_, rfl, hi, rfl, (unhide HB).trans (hb1.mono (unhide HB).size)⟩
end Go.Proofs.YtciahchpdmajbaaGreatDoor
