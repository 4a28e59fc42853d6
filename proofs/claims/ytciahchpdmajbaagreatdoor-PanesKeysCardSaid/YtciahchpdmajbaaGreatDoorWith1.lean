/- with, of the map of panes by keys: a new node. -/
import Derived.Test.YtciahchpdmajbaaGreatDoorLeaf
import Derived.Test.YtciahchpdmajbaaGreatDoorTree
namespace Go.Proofs.YtciahchpdmajbaaGreatDoor
open Go.RowKit

abbrev en1 (k : ByteArray) (v : Sl) : List Value := [.string k, v.val]
abbrev In1 (w : World) (t : Tr ByteArray Sl) : Prop := t.In 93 en1 w

theorem In1.cells {w : World} {b : Nat} {k : ByteArray} {v : Sl} {l r : Tr ByteArray Sl} (h : In1 w (.node b k v l r)) :
    w.cell? ⟨b, 0, none⟩ = some (.string k) ∧ w.cell? ⟨b, 1, none⟩ = some v.val ∧ w.cell? ⟨b, 2, none⟩ = some (.pointer l.ad) ∧ w.cell? ⟨b, 3, none⟩ = some (.pointer r.ad) ∧
    w.cell? ⟨b, 4, none⟩ = some (.int .i64 ((Tr.node b k v l r).high : Int)) ∧ w.cell? ⟨b, 5, none⟩ = some (.int .i64 ((Tr.node b k v l r).many : Int)) := by
  have h1 := h.1
  refine ⟨?_, ?_, ?_, ?_, ?_, ?_⟩ <;> (rw [cell_of_row w b _ _ _ (0, 0) h1]; rfl)

theorem high1_tr (t : Tr ByteArray Sl) (w : World) (h : In1 w t) : Calls Tryz.prog 78 #[.pointer t.ad] w fun e w' => e = .returned (.int .i64 (t.high : Int)) ∧ w = w' := by
  cases t with
  | nil => exact high1_nil w
  | node b k v l r => exact high1_node b _ w h.cells.2.2.2.2.1

theorem many1_tr (t : Tr ByteArray Sl) (w : World) (h : In1 w t) : Calls Tryz.prog 79 #[.pointer t.ad] w fun e w' => e = .returned (.int .i64 (t.many : Int)) ∧ w = w' := by
  cases t with
  | nil => exact many1_nil w
  | node b k v l r => exact many1_node b _ w h.cells.2.2.2.2.2

/-- A node's block. -/
def node1 (k : ByteArray) (v : Sl) (l r : Tr ByteArray Sl) : Obj := .cells #[.string k, v.val, .pointer l.ad, .pointer r.ad, .int .i64 ((max l.high r.high + 1 : Nat) : Int), .int .i64 ((l.many + r.many + 1 : Nat) : Int)] 93
theorem In1.new {w : World} {k : ByteArray} {v : Sl} {l r : Tr ByteArray Sl} (hl : In1 w l) (hr : In1 w r) : In1 (w.alloc (node1 k v l r)) (.node w.heap.size k v l r) :=
  ⟨heap_alloc_new w _, hl.alloc _, hr.alloc _⟩
theorem In1.at_ {w : World} {s : Nat} {k : ByteArray} {v : Sl} {l r : Tr ByteArray Sl} (hs : w.heap.size = s) (hl : In1 w l) (hr : In1 w r) : In1 (w.alloc (node1 k v l r)) (.node s k v l r) := by
  subst hs
  exact In1.new hl hr

set_option maxHeartbeats 400000 in
theorem with1_any (k : ByteArray) (A : Option Addr) (n c : Nat) (l r : Tr ByteArray Sl) (w : World) (hl : In1 w l) (hr : In1 w r) (hm : l.many + r.many ≤ 40000) :
    Calls Tryz.prog 59 #[.string k, .slice A n c, .pointer l.ad, .pointer r.ad] w fun e w' => e = .returned (.pointer (some ⟨w.heap.size, 0, none⟩)) ∧
      w.alloc (node1 k ⟨A, n, c⟩ l r) = w' := by
  have h1 := l.high_le
  have h2 := r.high_le
  go_enter Tryz.func59, Tryz.ntmps59
  go_wp2_with (first | (go_at_call 78; refine (high1_tr _ _ (by assumption)).mono ?_; rintro e w' ⟨rfl, rfl⟩) | (go_at_call 79; refine (many1_tr _ _ (by assumption)).mono ?_; rintro e w' ⟨rfl, rfl⟩))
  all_goals go_ret
  · exact ⟨rfl, by unfold node1; rw [show max l.high r.high = r.high from by omega]; rfl⟩
  · exact ⟨rfl, by unfold node1; rw [show max l.high r.high = l.high from by omega]; rfl⟩
theorem with1_open {k : ByteArray} {A p q : Option Addr} {n c : Nat} (l r : Tr ByteArray Sl) (w : World) (hp : l.ad = p) (hq : r.ad = q) (hl : In1 w l) (hr : In1 w r) (hm : l.many + r.many ≤ 40000) :
    Calls Tryz.prog 59 #[.string k, .slice A n c, .pointer p, .pointer q] w fun e w' => e = .returned (.pointer (some ⟨w.heap.size, 0, none⟩)) ∧ w.alloc (node1 k ⟨A, n, c⟩ l r) = w' := by
  subst hp hq
  exact with1_any k A n c l r w hl hr hm
end Go.Proofs.YtciahchpdmajbaaGreatDoor
