/- Plain: the store's tree as a Lean tree, how it lies in memory, and what 'even' and 'put' make of it. No walk stands here. -/
import Derived.Below
import Derived.Deep.Draws
import Derived.Laws.Rows
import Derived.Deep.RegionHeld
namespace Go.Proofs.YtciahchpdmajbaaGreatDoor
open Go.RowKit

theorem hide {p : Prop} (h : p) : Hid p := h
theorem unhide {p : Prop} (h : Hid p) : p := h
/-- A call that leaves the world alone is quiet, whatever was drawn ahead of it. -/
theorem still_first {P : Program} {f : FuncId} {args : Array Value} {w : World} {n : Nat} {v : Value} (h : Calls P f args (w.drewN n) fun e w' => e = .returned v ∧ w.drewN n = w') :
    Calls P f args (w.drewN n) fun e w'' => e = .returned v ∧ ∃ m, w'' = w.drewN m := h.mono fun _ _ ⟨he, hm⟩ => ⟨he, n, hm.symm⟩
theorem still_later {P : Program} {f : FuncId} {args : Array Value} {w : World} {a n : Nat} {v : Value} (h : Calls P f args (w.drewN (a + n)) fun e w' => e = .returned v ∧ w.drewN (a + n) = w') :
    Calls P f args (w.drewN (a + n)) fun e w'' => e = .returned v ∧ ∃ m, w'' = w.drewN (a + m) := h.mono fun _ _ ⟨he, hm⟩ => ⟨he, n, by rw [← hm]⟩
theorem below_drewN {B : Nat} {a w : World} (h : Below B a w) (n : Nat) : Below B a (w.drewN n) := ⟨h.os, h.tape, h.output, h.size, h.block⟩

/-- A cell is kept over a draw, over a new block. -/
theorem kd {w : World} {a : Addr} {v : Value} (h : w.cell? a = some v) : w.drew.cell? a = some v := h
theorem ka {w : World} {a : Addr} {v : Value} {o : Obj} (h : w.cell? a = some v) : (w.alloc o).cell? a = some v := (World.cell?_alloc_lt w o a (World.block_lt_of_cell? w a h)).trans h

theorem below_cell {w w' : World} {a : Addr} {v : Value} (hb : Below w.heap.size w w') (h : w.cell? a = some v) : w'.cell? a = some v := (hb.cell (World.block_lt_of_cell? w a h)).trans h

/-- Of what was there only block b has turned. -/
abbrev Only (b : Nat) (w w' : World) : Prop := w.grownBy w' (some b)
theorem only_of_below {w w' : World} (b : Nat) (h : Below w.heap.size w w') : Only b w w' := ⟨h.os, h.tape, h.output, h.size, fun i hi _ => h.block i hi⟩
theorem only_trans {b : Nat} {w w1 w2 : World} (h : Only b w w1) (k : Only b w1 w2) : Only b w w2 :=
  ⟨k.os.trans h.os, k.tape.trans h.tape, k.output.trans h.output, Nat.le_trans h.size k.size, fun i hi hne => (k.block i (Nat.lt_of_lt_of_le hi h.size) hne).trans (h.block i hi hne)⟩
theorem only_setCell (w : World) (b o : Nat) (u : Value) : Only b w (w.setCell ⟨b, o, none⟩ u) :=
  ⟨rfl, rfl, rfl, by simp [World.setCell], fun i _ hne => Below.heap_setCell w _ u i (fun e => hne (by rw [e]))⟩
theorem only_drew {b : Nat} {w w' : World} (h : Only b w w') : Only b w w'.drew := ⟨h.os, h.tape, h.output, h.size, h.block⟩
theorem only_drewN {b : Nat} {w w' : World} (h : Only b w w') (n : Nat) : Only b w (w'.drewN n) := ⟨h.os, h.tape, h.output, h.size, h.block⟩
theorem only_refl (b : Nat) (w : World) : Only b w w := ⟨rfl, rfl, rfl, Nat.le_refl _, fun _ _ _ => rfl⟩
theorem frozen_of_block {w : World} {b : Nat} {cs : Array Value} {t : TypeId} (h : w.heap[b]? = some (Obj.cells cs t (0, 0))) (o : Nat) : w.frozen? ⟨b, o, none⟩ = false := by simp [World.frozen?, h]
theorem setCell_block {w : World} {b : Nat} {cs : Array Value} {t : TypeId} (h : w.heap[b]? = some (Obj.cells cs t (0, 0))) (o : Nat) (u : Value) : (w.setCell ⟨b, o, none⟩ u).heap[b]? = some (Obj.cells (cs.setIfInBounds o u) t (0, 0)) := by
  simp [World.setCell, Array.getElem?_modify, h]

/-- A slice value. -/
structure Sl where
  a : Option Addr
  n : Nat
  c : Nat
abbrev Sl.val (s : Sl) : Value := .slice s.a s.n s.c

/-- A tree of nodes; each node lies in a block of its own. -/
inductive Tr (K V : Type) where
  | nil
  | node (b : Nat) (k : K) (v : V) (l r : Tr K V)

namespace Tr
variable {K V : Type}
def ad : Tr K V → Option Addr
  | nil => none
  | node b _ _ _ _ => some ⟨b, 0, none⟩
theorem ad_node {b : Nat} {k : K} {v : V} {l r : Tr K V} : (node b k v l r).ad = some ⟨b, 0, none⟩ := rfl
def high : Tr K V → Nat
  | nil => 0
  | node _ _ _ l r => max (high l) (high r) + 1
def many : Tr K V → Nat
  | nil => 0
  | node _ _ _ l r => many l + many r + 1
def list : Tr K V → List (K × V)
  | nil => []
  | node _ k v l r => list l ++ (k, v) :: list r
theorem high_le (t : Tr K V) : t.high ≤ t.many := by
  induction t with
  | nil => exact Nat.le_refl _
  | node b k v l r hl hr => simp only [high, many]; omega
theorem many_list (t : Tr K V) : t.list.length = t.many := by
  induction t with
  | nil => rfl
  | node b k v l r hl hr => simp only [list, many, List.length_append, List.length_cons, hl, hr]; omega
theorem high_pos {t : Tr K V} (h : 0 < t.high) : ∃ b k v l r, t = node b k v l r := by
  cases t with
  | nil => exact absurd h (Nat.lt_irrefl _)
  | node b k v l r => exact ⟨b, k, v, l, r, rfl⟩

/-- How it lies: ty: the node's type; en: a node's first cells. -/
def In (ty : TypeId) (en : K → V → List Value) (w : World) : Tr K V → Prop
  | nil => True
  | node b k v l r => w.heap[b]? = some (Obj.cells (en k v ++ [Value.pointer l.ad, Value.pointer r.ad, Value.int .i64 ((max l.high r.high + 1 : Nat) : Int), Value.int .i64 ((l.many + r.many + 1 : Nat) : Int)]).toArray ty (0, 0)) ∧ In ty en w l ∧ In ty en w r

/-- Blocks of a tree. -/
def blocks : Tr K V → List Nat
  | nil => []
  | node b _ _ l r => b :: (blocks l ++ blocks r)
theorem In.keep {ty : TypeId} {en : K → V → List Value} {w w' : World} : ∀ {t : Tr K V}, In ty en w t → (∀ (b : Nat) (cs : Array Value), w.heap[b]? = some (Obj.cells cs ty (0, 0)) → w'.heap[b]? = w.heap[b]?) → In ty en w' t
  | nil, _, _ => trivial
  | node _ _ _ _ _, ⟨h, hl, hr⟩, hk => ⟨(hk _ _ h).trans h, hl.keep hk, hr.keep hk⟩
theorem lt_of_some {w : World} {b : Nat} {o : Obj} (h : w.heap[b]? = some o) : b < w.heap.size := by
  rcases Nat.lt_or_ge b w.heap.size with hlt | hge
  · exact hlt
  · rw [Array.getElem?_eq_none hge] at h; cases h
theorem In.below {ty : TypeId} {en : K → V → List Value} {w w' : World} {t : Tr K V} (h : In ty en w t) (hb : Below w.heap.size w w') : In ty en w' t :=
  h.keep fun b _ hc => hb.block b (lt_of_some hc)
theorem In.alloc {ty : TypeId} {en : K → V → List Value} {w : World} {t : Tr K V} (h : In ty en w t) (o : Obj) : In ty en (w.alloc o) t :=
  h.below ((Below.refl _ w).alloc (Nat.le_refl _) o)
theorem In.drew {ty : TypeId} {en : K → V → List Value} {w : World} {t : Tr K V} (h : In ty en w t) : In ty en w.drew t := h.keep fun _ _ _ => rfl
theorem In.drewN {ty : TypeId} {en : K → V → List Value} {w : World} {t : Tr K V} (h : In ty en w t) (n : Nat) : In ty en (w.drewN n) t := h.keep fun _ _ _ => rfl
end Tr
end Go.Proofs.YtciahchpdmajbaaGreatDoor
