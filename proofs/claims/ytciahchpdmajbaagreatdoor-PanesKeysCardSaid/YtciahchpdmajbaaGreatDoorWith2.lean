/- with, of the map of last panes: a new node. -/
import Derived.Test.YtciahchpdmajbaaGreatDoorLast0
namespace Go.Proofs.YtciahchpdmajbaaGreatDoor
open Go.RowKit
attribute [local go_sem ↓] Go.wp_at_zero Go.wp_at_succ

set_option maxHeartbeats 400000 in
theorem high2_nil (w : World) : Calls Tryz.prog 80 #[.pointer none] w fun e w' => e = .returned (.int .i64 0) ∧ w = w' := by
  go_enter Tryz.func80, Tryz.ntmps80
  go_wp2
  go_ret
  exact ⟨rfl, rfl⟩
set_option maxHeartbeats 400000 in
theorem high2_node (b : Nat) (h : Int) (w : World) (hc : w.cell? ⟨b, 14, none⟩ = some (.int .i64 h)) : Calls Tryz.prog 80 #[.pointer (some ⟨b, 0, none⟩)] w fun e w' => e = .returned (.int .i64 h) ∧ w = w' := by
  go_enter Tryz.func80, Tryz.ntmps80
  go_wp2
  go_ret
  exact ⟨rfl, rfl⟩

set_option maxHeartbeats 400000 in
theorem many2_nil (w : World) : Calls Tryz.prog 81 #[.pointer none] w fun e w' => e = .returned (.int .i64 0) ∧ w = w' := by
  go_enter Tryz.func81, Tryz.ntmps81
  go_wp2
  go_ret
  exact ⟨rfl, rfl⟩
set_option maxHeartbeats 400000 in
theorem many2_node (b : Nat) (h : Int) (w : World) (hc : w.cell? ⟨b, 15, none⟩ = some (.int .i64 h)) : Calls Tryz.prog 81 #[.pointer (some ⟨b, 0, none⟩)] w fun e w' => e = .returned (.int .i64 h) ∧ w = w' := by
  go_enter Tryz.func81, Tryz.ntmps81
  go_wp2
  go_ret
  exact ⟨rfl, rfl⟩

abbrev en2 (k : Ak) (v : Pn) : List Value := k.cells ++ v.cells
abbrev In2 (w : World) (t : Tr Ak Pn) : Prop := t.In 117 en2 w
theorem In2.cells {w : World} {b : Nat} {k : Ak} {v : Pn} {l r : Tr Ak Pn} (h : In2 w (.node b k v l r)) :
    w.cell? ⟨b, 0, none⟩ = some (.string k.key) ∧ w.cell? ⟨b, 1, none⟩ = some (.int .i64 k.s) ∧ w.cell? ⟨b, 2, none⟩ = some (.int .i64 k.e) ∧ w.cell? ⟨b, 3, none⟩ = some (.string v.key) ∧ w.cell? ⟨b, 4, none⟩ = some (.int .i64 v.s) ∧ w.cell? ⟨b, 5, none⟩ = some (.int .i64 v.e) ∧ w.cell? ⟨b, 6, none⟩ = some (.int .i64 v.kind) ∧ w.cell? ⟨b, 7, none⟩ = some (.int .i64 v.nth) ∧ w.cell? ⟨b, 8, none⟩ = some (.int .i64 v.count) ∧ w.cell? ⟨b, 9, none⟩ = some (.int .i64 v.sum) ∧ w.cell? ⟨b, 10, none⟩ = some (.int .i64 v.min) ∧ w.cell? ⟨b, 11, none⟩ = some (.int .i64 v.max) ∧ w.cell? ⟨b, 12, none⟩ = some (.pointer l.ad) ∧ w.cell? ⟨b, 13, none⟩ = some (.pointer r.ad) ∧ w.cell? ⟨b, 14, none⟩ = some (.int .i64 ((Tr.node b k v l r).high : Int)) ∧ w.cell? ⟨b, 15, none⟩ = some (.int .i64 ((Tr.node b k v l r).many : Int)) := by
  have h1 := h.1
  refine ⟨?_, ?_, ?_, ?_, ?_, ?_, ?_, ?_, ?_, ?_, ?_, ?_, ?_, ?_, ?_, ?_⟩ <;> (rw [cell_of_row w b _ _ _ (0, 0) h1]; rfl)

theorem high2_tr (t : Tr Ak Pn) (w : World) (h : In2 w t) : Calls Tryz.prog 80 #[.pointer t.ad] w fun e w' => e = .returned (.int .i64 (t.high : Int)) ∧ w = w' := by
  cases t with
  | nil => exact high2_nil w
  | node b k v l r => exact high2_node b _ w h.cells.2.2.2.2.2.2.2.2.2.2.2.2.2.2.1
theorem many2_tr (t : Tr Ak Pn) (w : World) (h : In2 w t) : Calls Tryz.prog 81 #[.pointer t.ad] w fun e w' => e = .returned (.int .i64 (t.many : Int)) ∧ w = w' := by
  cases t with
  | nil => exact many2_nil w
  | node b k v l r => exact many2_node b _ w h.cells.2.2.2.2.2.2.2.2.2.2.2.2.2.2.2
/-- A node's block. -/
def node2 (k : Ak) (v : Pn) (l r : Tr Ak Pn) : Obj := .cells #[.string k.key, .int .i64 k.s, .int .i64 k.e, .string v.key, .int .i64 v.s, .int .i64 v.e, .int .i64 v.kind, .int .i64 v.nth, .int .i64 v.count, .int .i64 v.sum, .int .i64 v.min, .int .i64 v.max, .pointer l.ad, .pointer r.ad, .int .i64 ((max l.high r.high + 1 : Nat) : Int), .int .i64 ((l.many + r.many + 1 : Nat) : Int)] 117
theorem In2.at_ {w : World} {s : Nat} {k : Ak} {v : Pn} {l r : Tr Ak Pn} (hs : w.heap.size = s) (hl : In2 w l) (hr : In2 w r) : In2 (w.alloc (node2 k v l r)) (.node s k v l r) := by
  subst hs
  exact ⟨heap_alloc_new w _, hl.alloc _, hr.alloc _⟩

/-- What with gives. -/
def Done2 (k : Ak) (v : Pn) (l r : Tr Ak Pn) (w : World) (e : Ending) (w' : World) : Prop := ∃ b, e = .returned (.pointer (some ⟨b, 0, none⟩)) ∧ In2 w' (.node b k v l r) ∧ Below w.heap.size w w'

set_option maxHeartbeats 4000000 in
set_option maxRecDepth 100000 in
theorem with2_lt (k : Ak) (v : Pn) (l r : Tr Ak Pn) (w : World) (hl : In2 w l) (hr : In2 w r) (hm : l.many + r.many ≤ 40000) (hh : l.high < r.high) :
    Calls Tryz.prog 62 #[k.val, v.val, .pointer l.ad, .pointer r.ad] w (Done2 k v l r w) := by
  have q1 := l.high_le
  have q2 := r.high_le
  have f1 : (l.high : Int) ≤ (r.high : Int) := by omega
  have f2 : (l.high : Int) < (r.high : Int) := by omega
  have f3 : ¬ ((r.high : Int) ≤ (l.high : Int)) := by omega
  have f4 : ¬ ((r.high : Int) < (l.high : Int)) := by omega
  have HMX : Hid (max l.high r.high = r.high) := by show _ = _; omega
  clear hh
  have h1 : ((w.alloc (.cells k.cells.toArray 59)).alloc (.cells v.cells.toArray 40)).heap[w.heap.size]? = some (.cells k.cells.toArray 59 (0, 0)) := (Below.heap_alloc _ _ _ (by simp)).trans (heap_alloc_new w _)
  have h2 : ((w.alloc (.cells k.cells.toArray 59)).alloc (.cells v.cells.toArray 40)).heap[w.heap.size + 1]? = some (.cells v.cells.toArray 40 (0, 0)) := by
    have := heap_alloc_new (w.alloc (.cells k.cells.toArray 59)) (.cells v.cells.toArray 40)
    rwa [World.size_alloc] at this
  have hb : Below w.heap.size w ((w.alloc (.cells k.cells.toArray 59)).alloc (.cells v.cells.toArray 40)) := ((Below.refl _ w).alloc (Nat.le_refl _) _).alloc (by simp) _
  have hs : ((w.alloc (.cells k.cells.toArray 59)).alloc (.cells v.cells.toArray 40)).heap.size = w.heap.size + 1 + 1 := by simp
  have hlW := hl.below (((Below.refl _ w).alloc (Nat.le_refl _) (.cells k.cells.toArray 59)).alloc (by simp) (.cells v.cells.toArray 40))
  have hrW := hr.below (((Below.refl _ w).alloc (Nat.le_refl _) (.cells k.cells.toArray 59)).alloc (by simp) (.cells v.cells.toArray 40))
  go_enter Tryz.func62, Tryz.ntmps62
  go_wp2_with fail
  obtain ⟨W, hW⟩ : ∃ W, W = (w.alloc (.cells k.cells.toArray 59)).alloc (.cells v.cells.toArray 40) := ⟨_, rfl⟩
  (try rw [← hW])
  rw [← hW] at h1 h2 hb hs hlW hrW
  clear hW
  have e0 : W.cell? ⟨w.heap.size, 0, none⟩ = some (.string k.key) := by rw [cell_of_row W _ _ _ _ (0, 0) h1]; rfl
  have e1 : W.cell? ⟨w.heap.size, 1, none⟩ = some (.int .i64 k.s) := by rw [cell_of_row W _ _ _ _ (0, 0) h1]; rfl
  have e2 : W.cell? ⟨w.heap.size, 2, none⟩ = some (.int .i64 k.e) := by rw [cell_of_row W _ _ _ _ (0, 0) h1]; rfl
  have e3 : W.cell? ⟨w.heap.size + 1, 0, none⟩ = some (.string v.key) := by rw [cell_of_row W _ _ _ _ (0, 0) h2]; rfl
  have e4 : W.cell? ⟨w.heap.size + 1, 1, none⟩ = some (.int .i64 v.s) := by rw [cell_of_row W _ _ _ _ (0, 0) h2]; rfl
  have e5 : W.cell? ⟨w.heap.size + 1, 2, none⟩ = some (.int .i64 v.e) := by rw [cell_of_row W _ _ _ _ (0, 0) h2]; rfl
  have e6 : W.cell? ⟨w.heap.size + 1, 3, none⟩ = some (.int .i64 v.kind) := by rw [cell_of_row W _ _ _ _ (0, 0) h2]; rfl
  have e7 : W.cell? ⟨w.heap.size + 1, 4, none⟩ = some (.int .i64 v.nth) := by rw [cell_of_row W _ _ _ _ (0, 0) h2]; rfl
  have e8 : W.cell? ⟨w.heap.size + 1, 5, none⟩ = some (.int .i64 v.count) := by rw [cell_of_row W _ _ _ _ (0, 0) h2]; rfl
  have e9 : W.cell? ⟨w.heap.size + 1, 6, none⟩ = some (.int .i64 v.sum) := by rw [cell_of_row W _ _ _ _ (0, 0) h2]; rfl
  have e10 : W.cell? ⟨w.heap.size + 1, 7, none⟩ = some (.int .i64 v.min) := by rw [cell_of_row W _ _ _ _ (0, 0) h2]; rfl
  have e11 : W.cell? ⟨w.heap.size + 1, 8, none⟩ = some (.int .i64 v.max) := by rw [cell_of_row W _ _ _ _ (0, 0) h2]; rfl
  have HB := hide hb
  have HL := hide hlW
  have HR := hide hrW
  have HH1 := hide fun (W2 : World) (h : In2 W2 l) => high2_tr l W2 h
  have HH2 := hide fun (W2 : World) (h : In2 W2 r) => high2_tr r W2 h
  have HM1 := hide fun (W2 : World) (h : In2 W2 l) => many2_tr l W2 h
  have HM2 := hide fun (W2 : World) (h : In2 W2 r) => many2_tr r W2 h
  obtain ⟨pl, hpl⟩ : ∃ pl, pl = l.ad := ⟨_, rfl⟩
  obtain ⟨pr, hpr⟩ : ∃ pr, pr = r.ad := ⟨_, rfl⟩
  clear h1 h2 hb hl hr hlW hrW
  go_region_held3 (fun w0 => w0.cell? ⟨w.heap.size, 0, none⟩ = some (.string k.key) ∧ w0.cell? ⟨w.heap.size, 1, none⟩ = some (.int .i64 k.s) ∧ w0.cell? ⟨w.heap.size, 2, none⟩ = some (.int .i64 k.e) ∧ w0.cell? ⟨w.heap.size + 1, 0, none⟩ = some (.string v.key) ∧ w0.cell? ⟨w.heap.size + 1, 1, none⟩ = some (.int .i64 v.s) ∧ w0.cell? ⟨w.heap.size + 1, 2, none⟩ = some (.int .i64 v.e) ∧ w0.cell? ⟨w.heap.size + 1, 3, none⟩ = some (.int .i64 v.kind) ∧ w0.cell? ⟨w.heap.size + 1, 4, none⟩ = some (.int .i64 v.nth) ∧ w0.cell? ⟨w.heap.size + 1, 5, none⟩ = some (.int .i64 v.count) ∧ w0.cell? ⟨w.heap.size + 1, 6, none⟩ = some (.int .i64 v.sum) ∧ w0.cell? ⟨w.heap.size + 1, 7, none⟩ = some (.int .i64 v.min) ∧ w0.cell? ⟨w.heap.size + 1, 8, none⟩ = some (.int .i64 v.max)) (first | exact ⟨kd e0, kd e1, kd e2, kd e3, kd e4, kd e5, kd e6, kd e7, kd e8, kd e9, kd e10, kd e11⟩ | exact ⟨kd (ka e0), kd (ka e1), kd (ka e2), kd (ka e3), kd (ka e4), kd (ka e5), kd (ka e6), kd (ka e7), kd (ka e8), kd (ka e9), kd (ka e10), kd (ka e11)⟩)
    (first | (go_at_call 80; (with_reducible refine (unhide HH1 _ (unhide HL).drew).mono ?_); rintro e w1 ⟨rfl, rfl⟩) | (go_at_call 80; (with_reducible refine (unhide HH2 _ (unhide HR).drew).mono ?_); rintro e w1 ⟨rfl, rfl⟩) | (go_at_call 81; (with_reducible refine (unhide HM1 _ (unhide HL).drew).mono ?_); rintro e w1 ⟨rfl, rfl⟩) | (go_at_call 81; (with_reducible refine (unhide HM2 _ (unhide HR).drew).mono ?_); rintro e w1 ⟨rfl, rfl⟩))
  all_goals go_wp2_with fail
  all_goals go_ret
  all_goals
    refine ⟨w.heap.size + 1 + 1, rfl, ?_, ((unhide HB).alloc (by rw [hs]; omega) _).drew⟩
    have w1 : IntKind.i64.wrap ((l.high : Int) + 1) = ((l.high + 1 : Nat) : Int) := by rw [IntKind.wrap_i64]; omega
    have w2 : IntKind.i64.wrap ((r.high : Int) + 1) = ((r.high + 1 : Nat) : Int) := by rw [IntKind.wrap_i64]; omega
    have w3 : IntKind.i64.wrap (IntKind.i64.wrap ((l.many : Int) + (r.many : Int)) + 1) = ((l.many + r.many + 1 : Nat) : Int) := by rw [IntKind.wrap_i64, IntKind.wrap_i64]; omega
    rw [w3]
    (first | rw [w1] | rw [w2])
    have h9 := (In2.at_ (k := k) (v := v) hs (unhide HL) (unhide HR)).drew
    unfold node2 at h9
    rw [HMX.out] at h9
    exact h9
set_option maxHeartbeats 4000000 in
set_option maxRecDepth 100000 in
theorem with2_ge (k : Ak) (v : Pn) (l r : Tr Ak Pn) (w : World) (hl : In2 w l) (hr : In2 w r) (hm : l.many + r.many ≤ 40000) (hh : r.high ≤ l.high) :
    Calls Tryz.prog 62 #[k.val, v.val, .pointer l.ad, .pointer r.ad] w (Done2 k v l r w) := by
  have q1 := l.high_le
  have q2 := r.high_le
  have f1 : (r.high : Int) ≤ (l.high : Int) := by omega
  have f4 : ¬ ((l.high : Int) < (r.high : Int)) := by omega
  have HMX : Hid (max l.high r.high = l.high) := by show _ = _; omega
  clear hh
  have h1 : ((w.alloc (.cells k.cells.toArray 59)).alloc (.cells v.cells.toArray 40)).heap[w.heap.size]? = some (.cells k.cells.toArray 59 (0, 0)) := (Below.heap_alloc _ _ _ (by simp)).trans (heap_alloc_new w _)
  have h2 : ((w.alloc (.cells k.cells.toArray 59)).alloc (.cells v.cells.toArray 40)).heap[w.heap.size + 1]? = some (.cells v.cells.toArray 40 (0, 0)) := by
    have := heap_alloc_new (w.alloc (.cells k.cells.toArray 59)) (.cells v.cells.toArray 40)
    rwa [World.size_alloc] at this
  have hb : Below w.heap.size w ((w.alloc (.cells k.cells.toArray 59)).alloc (.cells v.cells.toArray 40)) := ((Below.refl _ w).alloc (Nat.le_refl _) _).alloc (by simp) _
  have hs : ((w.alloc (.cells k.cells.toArray 59)).alloc (.cells v.cells.toArray 40)).heap.size = w.heap.size + 1 + 1 := by simp
  have hlW := hl.below (((Below.refl _ w).alloc (Nat.le_refl _) (.cells k.cells.toArray 59)).alloc (by simp) (.cells v.cells.toArray 40))
  have hrW := hr.below (((Below.refl _ w).alloc (Nat.le_refl _) (.cells k.cells.toArray 59)).alloc (by simp) (.cells v.cells.toArray 40))
  go_enter Tryz.func62, Tryz.ntmps62
  go_wp2_with fail
  obtain ⟨W, hW⟩ : ∃ W, W = (w.alloc (.cells k.cells.toArray 59)).alloc (.cells v.cells.toArray 40) := ⟨_, rfl⟩
  (try rw [← hW])
  rw [← hW] at h1 h2 hb hs hlW hrW
  clear hW
  have e0 : W.cell? ⟨w.heap.size, 0, none⟩ = some (.string k.key) := by rw [cell_of_row W _ _ _ _ (0, 0) h1]; rfl
  have e1 : W.cell? ⟨w.heap.size, 1, none⟩ = some (.int .i64 k.s) := by rw [cell_of_row W _ _ _ _ (0, 0) h1]; rfl
  have e2 : W.cell? ⟨w.heap.size, 2, none⟩ = some (.int .i64 k.e) := by rw [cell_of_row W _ _ _ _ (0, 0) h1]; rfl
  have e3 : W.cell? ⟨w.heap.size + 1, 0, none⟩ = some (.string v.key) := by rw [cell_of_row W _ _ _ _ (0, 0) h2]; rfl
  have e4 : W.cell? ⟨w.heap.size + 1, 1, none⟩ = some (.int .i64 v.s) := by rw [cell_of_row W _ _ _ _ (0, 0) h2]; rfl
  have e5 : W.cell? ⟨w.heap.size + 1, 2, none⟩ = some (.int .i64 v.e) := by rw [cell_of_row W _ _ _ _ (0, 0) h2]; rfl
  have e6 : W.cell? ⟨w.heap.size + 1, 3, none⟩ = some (.int .i64 v.kind) := by rw [cell_of_row W _ _ _ _ (0, 0) h2]; rfl
  have e7 : W.cell? ⟨w.heap.size + 1, 4, none⟩ = some (.int .i64 v.nth) := by rw [cell_of_row W _ _ _ _ (0, 0) h2]; rfl
  have e8 : W.cell? ⟨w.heap.size + 1, 5, none⟩ = some (.int .i64 v.count) := by rw [cell_of_row W _ _ _ _ (0, 0) h2]; rfl
  have e9 : W.cell? ⟨w.heap.size + 1, 6, none⟩ = some (.int .i64 v.sum) := by rw [cell_of_row W _ _ _ _ (0, 0) h2]; rfl
  have e10 : W.cell? ⟨w.heap.size + 1, 7, none⟩ = some (.int .i64 v.min) := by rw [cell_of_row W _ _ _ _ (0, 0) h2]; rfl
  have e11 : W.cell? ⟨w.heap.size + 1, 8, none⟩ = some (.int .i64 v.max) := by rw [cell_of_row W _ _ _ _ (0, 0) h2]; rfl
  have HB := hide hb
  have HL := hide hlW
  have HR := hide hrW
  have HH1 := hide fun (W2 : World) (h : In2 W2 l) => high2_tr l W2 h
  have HH2 := hide fun (W2 : World) (h : In2 W2 r) => high2_tr r W2 h
  have HM1 := hide fun (W2 : World) (h : In2 W2 l) => many2_tr l W2 h
  have HM2 := hide fun (W2 : World) (h : In2 W2 r) => many2_tr r W2 h
  obtain ⟨pl, hpl⟩ : ∃ pl, pl = l.ad := ⟨_, rfl⟩
  obtain ⟨pr, hpr⟩ : ∃ pr, pr = r.ad := ⟨_, rfl⟩
  clear h1 h2 hb hl hr hlW hrW
  go_region_held3 (fun w0 => w0.cell? ⟨w.heap.size, 0, none⟩ = some (.string k.key) ∧ w0.cell? ⟨w.heap.size, 1, none⟩ = some (.int .i64 k.s) ∧ w0.cell? ⟨w.heap.size, 2, none⟩ = some (.int .i64 k.e) ∧ w0.cell? ⟨w.heap.size + 1, 0, none⟩ = some (.string v.key) ∧ w0.cell? ⟨w.heap.size + 1, 1, none⟩ = some (.int .i64 v.s) ∧ w0.cell? ⟨w.heap.size + 1, 2, none⟩ = some (.int .i64 v.e) ∧ w0.cell? ⟨w.heap.size + 1, 3, none⟩ = some (.int .i64 v.kind) ∧ w0.cell? ⟨w.heap.size + 1, 4, none⟩ = some (.int .i64 v.nth) ∧ w0.cell? ⟨w.heap.size + 1, 5, none⟩ = some (.int .i64 v.count) ∧ w0.cell? ⟨w.heap.size + 1, 6, none⟩ = some (.int .i64 v.sum) ∧ w0.cell? ⟨w.heap.size + 1, 7, none⟩ = some (.int .i64 v.min) ∧ w0.cell? ⟨w.heap.size + 1, 8, none⟩ = some (.int .i64 v.max)) (first | exact ⟨kd e0, kd e1, kd e2, kd e3, kd e4, kd e5, kd e6, kd e7, kd e8, kd e9, kd e10, kd e11⟩ | exact ⟨kd (ka e0), kd (ka e1), kd (ka e2), kd (ka e3), kd (ka e4), kd (ka e5), kd (ka e6), kd (ka e7), kd (ka e8), kd (ka e9), kd (ka e10), kd (ka e11)⟩)
    (first | (go_at_call 80; (with_reducible refine (unhide HH1 _ (unhide HL).drew).mono ?_); rintro e w1 ⟨rfl, rfl⟩) | (go_at_call 80; (with_reducible refine (unhide HH2 _ (unhide HR).drew).mono ?_); rintro e w1 ⟨rfl, rfl⟩) | (go_at_call 81; (with_reducible refine (unhide HM1 _ (unhide HL).drew).mono ?_); rintro e w1 ⟨rfl, rfl⟩) | (go_at_call 81; (with_reducible refine (unhide HM2 _ (unhide HR).drew).mono ?_); rintro e w1 ⟨rfl, rfl⟩))
  all_goals go_wp2_with fail
  all_goals go_ret
  all_goals
    refine ⟨w.heap.size + 1 + 1, rfl, ?_, ((unhide HB).alloc (by rw [hs]; omega) _).drew⟩
    have w1 : IntKind.i64.wrap ((l.high : Int) + 1) = ((l.high + 1 : Nat) : Int) := by rw [IntKind.wrap_i64]; omega
    have w2 : IntKind.i64.wrap ((r.high : Int) + 1) = ((r.high + 1 : Nat) : Int) := by rw [IntKind.wrap_i64]; omega
    have w3 : IntKind.i64.wrap (IntKind.i64.wrap ((l.many : Int) + (r.many : Int)) + 1) = ((l.many + r.many + 1 : Nat) : Int) := by rw [IntKind.wrap_i64, IntKind.wrap_i64]; omega
    rw [w3]
    (first | rw [w1] | rw [w2])
    have h9 := (In2.at_ (k := k) (v := v) hs (unhide HL) (unhide HR)).drew
    unfold node2 at h9
    rw [HMX.out] at h9
    exact h9
theorem with2_any (k : Ak) (v : Pn) (l r : Tr Ak Pn) (w : World) (hl : In2 w l) (hr : In2 w r) (hm : l.many + r.many ≤ 40000) :
    Calls Tryz.prog 62 #[k.val, v.val, .pointer l.ad, .pointer r.ad] w (Done2 k v l r w) := by
  rcases Nat.lt_or_ge l.high r.high with h | h
  · exact with2_lt k v l r w hl hr hm h
  · exact with2_ge k v l r w hl hr hm h
end Go.Proofs.YtciahchpdmajbaaGreatDoor
