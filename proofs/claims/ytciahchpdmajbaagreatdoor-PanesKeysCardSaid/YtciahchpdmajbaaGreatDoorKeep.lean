/- Blocks of a kind are kept: what a loop's body does, and what an append to a row of one's own does. -/
import Derived.Test.YtciahchpdmajbaaGreatDoorRange
import Derived.Maps.AppendAt
import Derived.Deep.AppendLies
import Derived.WalkSmall
import Derived.Scope
namespace Go.Proofs.YtciahchpdmajbaaGreatDoor
open Go.RowKit

/-- Blocks of cells whose element type is of a kind are kept. -/
def KeepsTy (p : TypeId → Prop) (W W' : World) : Prop := ∀ (i : Nat) (cs : Array Value) (t : TypeId), p t → W.heap[i]? = some (.cells cs t (0, 0)) → W'.heap[i]? = some (.cells cs t (0, 0))
theorem KeepsTy.refl (p : TypeId → Prop) (W : World) : KeepsTy p W W := fun _ _ _ _ h => h
theorem KeepsTy.trans {p : TypeId → Prop} {A B C : World} (h : KeepsTy p A B) (k : KeepsTy p B C) : KeepsTy p A C := fun i cs t hp hc => k i cs t hp (h i cs t hp hc)
theorem KeepsTy.putObj {p : TypeId → Prop} (W : World) (l : Nat) (o o' : Obj) (hl : W.heap[l]? = some o) (ho : o.isCells = false) : KeepsTy p W (W.putObj l o') := fun i cs t _ hc => by
  have hne : i ≠ l := by
    rintro rfl
    rw [hl] at hc
    cases hc
    cases ho
  exact (World.putObj_heap_other hne).trans hc
theorem KeepsTy.below {p : TypeId → Prop} {W W' : World} (h : Below W.heap.size W W') : KeepsTy p W W' := fun i _ _ _ hc => (h.block i (Tr.lt_of_some hc)).trans hc
theorem KeepsTy.in_ {p : TypeId → Prop} {W W' : World} (h : KeepsTy p W W') {K V : Type} {ty : TypeId} {en : K → V → List Value} {t : Tr K V} (ht : t.In ty en W) (hp : p ty) : t.In ty en W' :=
  ht.keep fun b cs hc => by rw [h b cs ty hp hc, hc]

/-- A frame that ends without a jump to a label. -/
theorem wpIn_scope_wide {n : Nat} {P : Program} {c : Code} {Q : Exit → Act → World → Prop} {a : Act} {w : World} (h : c.wpIn Fence.wide n P (Exit.noGoto Q) a w) : (Code.scope c).wpIn Fence.wide n P Q a w :=
  wpIn_wide.2 (wp_scope_straight (wpIn_wide.1 h))

/-- What is still to come: of the tree at hand, then of the stack's nodes, the top one first. -/
def Tr.restS {K V : Type} : List (Nat × K × V × Tr K V × Tr K V) → List (K × V)
  | [] => []
  | (_, k, v, _, r) :: st => (k, v) :: (r.list ++ Tr.restS st)

/-- The stack's nodes lie in memory. -/
def Tr.StIn (ty : TypeId) {K V : Type} (en : K → V → List Value) (w : World) (st : List (Nat × K × V × Tr K V × Tr K V)) : Prop := ∀ x ∈ st, (Tr.node x.1 x.2.1 x.2.2.1 x.2.2.2.1 x.2.2.2.2).In ty en w


section
variable {w w' : World} {B : Nat} {e : TypeId} {size n : Nat} {v : Value} {xs : List Value}
/-- A row's shape, whatever its length. -/
theorem own_shape (h : w.ownsRow B e size v n xs) : ∃ (A : Option Addr) (c : Nat), v = .slice A n c := by
  rcases h.2 with ⟨rfl, rfl⟩ | ⟨g, cap, cur, rfl, _⟩
  · exact ⟨none, 0, rfl⟩
  · exact ⟨_, _, rfl⟩
/-- The one block that an append may turn is of the row's own type, and not below the base. -/
theorem own_block (h : w.ownsRow B e size v n xs) {r : Nat} (hr : v.ownBlock = some r) : B ≤ r ∧ ∃ cs : Array Value, w.heap[r]? = some (.cells cs e (0, 0)) := by
  rcases h.2 with ⟨rfl, _⟩ | ⟨g, cap, cur, rfl, hB, hg, _⟩
  · simp [Value.ownBlock] at hr
  · obtain rfl : g = r := by simpa [Value.ownBlock] using hr
    exact ⟨hB, cur, hg⟩
theorem own_other (h : w.ownsRow B e size v n xs) (hg : w.grownBy w' v.ownBlock) {b : Nat} {cs : Array Value} {t : TypeId} (hc : w.heap[b]? = some (.cells cs t (0, 0))) (ht : t ≠ e) : w'.heap[b]? = some (.cells cs t (0, 0)) :=
  (hg.block b (Tr.lt_of_some hc) fun hr => by
    obtain ⟨_, cs', h'⟩ := own_block h hr.symm
    rw [hc] at h'
    injection h' with h'
    injection h' with _ h'
    exact ht h').trans hc
theorem own_below (h : w.ownsRow B e size v n xs) (hg : w.grownBy w' v.ownBlock) {b : Nat} (hb : b < B) (hs : B ≤ w.heap.size) : w'.heap[b]? = w.heap[b]? :=
  hg.block b (by omega) fun hr => by have := (own_block h hr.symm).1; omega
theorem own_cap {g c : Nat} (h : w.ownsRow B e size (.slice (some ⟨g, 0, none⟩) n c) n xs) : n ≤ c := by
  rcases h.2 with ⟨h0, _⟩ | ⟨g', cap, cur, hv, hb, hgg, hn, _⟩
  · cases h0
  · injection hv with _ _ hv
    omega
theorem own_keepsTy {p : TypeId → Prop} (h : w.ownsRow B e size v n xs) (hk : KeepsTy p w w') (he : p e) : w'.ownsRow B e size v n xs := by
  refine ⟨h.1, ?_⟩
  rcases h.2 with hn | ⟨g, cap, cur, rfl, hb, hgg, rest⟩
  · exact .inl hn
  · exact .inr ⟨g, cap, cur, rfl, hb, hk _ _ _ he hgg, rest⟩
theorem own_drewN (h : w.ownsRow B e size v n xs) (k : Nat) : (w.drewN k).ownsRow B e size v n xs := h
theorem in_append {K V : Type} {ty : TypeId} {en : K → V → List Value} {t : Tr K V} (h : w.ownsRow B e size v n xs) (hg : w.grownBy w' v.ownBlock) (hne : ty ≠ e) (ht : t.In ty en w) : t.In ty en w' :=
  ht.keep fun b cs hc => by rw [own_other h hg hc hne, hc]
end
theorem KeepsTy.drewN {p : TypeId → Prop} {A B : World} (h : KeepsTy p A B) (n : Nat) : KeepsTy p A (B.drewN n) := h
theorem KeepsTy.drew {p : TypeId → Prop} {A B : World} (h : KeepsTy p A B) : KeepsTy p A B.drew := h
theorem KeepsTy.alloc {p : TypeId → Prop} {A B : World} (h : KeepsTy p A B) (o : Obj) : KeepsTy p A (B.alloc o) := h.trans (KeepsTy.below ((Below.refl _ B).alloc (Nat.le_refl _) o))
/-- What lies in W is kept by an append to a row laid later. -/
theorem KeepsTy.append {p : TypeId → Prop} {W w w' : World} {e : TypeId} {size n : Nat} {v : Value} {xs : List Value} (hk : KeepsTy p W w) (hs : W.heap.size ≤ w.heap.size) (h : w.ownsRow W.heap.size e size v n xs) (hg : w.grownBy w' v.ownBlock) : KeepsTy p W w' :=
  fun i cs t hp hc => by rw [own_below h hg (Tr.lt_of_some hc) hs]; exact hk i cs t hp hc
theorem OwnE.alloc {e : TypeId} {B : Nat} {β : Type} {J : β → World → Prop} (hJ : OwnE e B J) {s : β} {w : World} (h : J s w) (o : Obj) : J s (w.alloc o) := hJ s _ _ none h (World.grownBy_alloc w o none) fun _ h => by cases h
theorem OwnE.drewN {e : TypeId} {B : Nat} {β : Type} {J : β → World → Prop} (hJ : OwnE e B J) {s : β} {w : World} (h : J s w) (n : Nat) : J s (w.drewN n) := hJ s _ _ none h ⟨rfl, rfl, rfl, Nat.le_refl _, fun _ _ _ => rfl⟩ fun _ h => by cases h
theorem OwnE.append {e : TypeId} {B : Nat} {β : Type} {J : β → World → Prop} (hJ : OwnE e B J) {s : β} {w w' : World} {size n : Nat} {v : Value} {xs : List Value} (h : J s w) (hown : w.ownsRow B e size v n xs) (hg : w.grownBy w' v.ownBlock) : J s w' :=
  hJ s _ _ _ h hg fun _ hr => own_block hown hr
theorem Tr.StIn.keep {K V : Type} {ty : TypeId} {en : K → V → List Value} {w w' : World} {st : List (Nat × K × V × Tr K V × Tr K V)} (h : Tr.StIn ty en w st) (hk : ∀ t : Tr K V, t.In ty en w → t.In ty en w') : Tr.StIn ty en w' st := fun x hx => hk _ (h x hx)
end Go.Proofs.YtciahchpdmajbaaGreatDoor
