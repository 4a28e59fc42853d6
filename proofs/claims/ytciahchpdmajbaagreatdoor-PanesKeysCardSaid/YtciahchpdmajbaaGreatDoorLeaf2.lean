/- Leaves of Last's map: none, All's function. -/
import Derived.Test.YtciahchpdmajbaaGreatDoorMake2
namespace Go.Proofs.YtciahchpdmajbaaGreatDoor
open Go.RowKit
attribute [local go_sem ↓] Go.wp_at_zero Go.wp_at_succ

set_option maxHeartbeats 400000 in
set_option maxRecDepth 100000 in
theorem none2_ok (b : Nat) (g : Nat) (w : World) (hc : w.cell? ⟨b, 0, none⟩ = some (.func (.func g) #[] #[])) : Calls Tryz.prog 50 #[.pointer (some ⟨b, 0, none⟩)] w fun e w' => e = .returned (.bool false) ∧ w = w' := by
  have hq : ∀ w : World, (binOp .eql 63 (.func (.func g) #[] #[]) .nilFunc).run Tryz.prog w = .ok (.bool false) w := fun _ => by kernel_rfl
  go_enter Tryz.func50, Tryz.ntmps50
  go_wp2
  go_ret
  exact ⟨rfl, rfl⟩

set_option maxHeartbeats 400000 in
theorem allF2_any (a : Ak) (w : World) : Calls Tryz.prog 53 #[a.val] w fun e w' => e = .returned (.bool false) ∧ w.alloc (.cells a.cells.toArray 59) = w' := by
  go_enter Tryz.func53, Tryz.ntmps53
  go_wp2
  go_ret
  exact ⟨rfl, rfl⟩

/-- The map's own block. -/
abbrev MapIs2 (w : World) (mb : Nat) (t : Tr Ak Pn) : Prop := w.heap[mb]? = some (.cells #[.func (.func 27) #[] #[], .pointer t.ad] 99 (0, 0))
theorem MapIs2.cells {w : World} {mb : Nat} {t : Tr Ak Pn} (h : MapIs2 w mb t) : w.cell? ⟨mb, 0, none⟩ = some (.func (.func 27) #[] #[]) ∧ w.cell? ⟨mb, 1, none⟩ = some (.pointer t.ad) := by
  refine ⟨?_, ?_⟩ <;> (rw [cell_of_row w mb _ _ _ (0, 0) h]; rfl)
theorem allF2_below (a : Ak) (w : World) : Calls Tryz.prog 53 #[a.val] w fun e w' => e = .returned (.bool false) ∧ Below w.heap.size w w' :=
  (allF2_any a w).mono fun _ _ ⟨he, hw⟩ => ⟨he, by rw [← hw]; exact (Below.refl _ w).alloc (Nat.le_refl _) _⟩
theorem OwnE.below {e : TypeId} {B : Nat} {β : Type} {J : β → World → Prop} (hJ : OwnE e B J) {s : β} {w w' : World} (h : J s w) (hb : Below w.heap.size w w') : J s w' :=
  hJ s _ _ none h ⟨hb.os, hb.tape, hb.output, hb.size, fun i hi _ => hb.block i hi⟩ fun _ h => by cases h
end Go.Proofs.YtciahchpdmajbaaGreatDoor
