/- What Last makes: a map, an iterator. -/
import Derived.Test.YtciahchpdmajbaaGreatDoorPut2a
namespace Go.Proofs.YtciahchpdmajbaaGreatDoor
open Go.RowKit
attribute [local go_sem ↓] Go.wp_at_zero Go.wp_at_succ

set_option maxHeartbeats 400000 in
set_option maxRecDepth 100000 in
theorem New2_any (w : World) : Calls Tryz.prog 26 #[.func (.func 27) #[] #[]] w fun e w' => e = .returned (.tuple #[.pointer (some ⟨w.heap.size, 0, none⟩), .int .i64 0]) ∧ w.alloc (.cells #[.func (.func 27) #[] #[], .pointer none] 99) = w' := by
  have hnf : ∀ w : World, (binOp .eql 63 (.func (.func 27) #[] #[]) .nilFunc).run Tryz.prog w = .ok (.bool false) w := fun w => by kernel_rfl
  go_enter Tryz.func26, Tryz.ntmps26
  go_wp2
  go_ret2
  exact ⟨rfl, rfl⟩

/-- The iterator's three boxes. -/
abbrev boxes2 (w : World) (mb : Nat) : World := ((w.alloc (.cells #[.pointer (some ⟨mb, 0, none⟩)] 55)).alloc (.cells #[.bool false] 4)).alloc (.cells #[.func (.func 53) #[] #[]] 106)

set_option maxHeartbeats 400000 in
theorem walk2_any (mb : Nat) (w : World) : Calls Tryz.prog 52 #[.pointer (some ⟨mb, 0, none⟩), .bool false, .func (.func 53) #[] #[]] w fun e w' =>
    e = .returned (.func (.func 64) #[] #[.pointer (some ⟨w.heap.size, 0, none⟩), .pointer (some ⟨w.heap.size + 1, 0, none⟩), .pointer (some ⟨w.heap.size + 1 + 1, 0, none⟩)]) ∧ boxes2 w mb = w' := by
  go_enter Tryz.func52, Tryz.ntmps52
  go_wp2
  go_ret
  exact ⟨rfl, rfl⟩

set_option maxHeartbeats 400000 in
theorem All2_any (mb : Nat) (w : World) : Calls Tryz.prog 32 #[.pointer (some ⟨mb, 0, none⟩)] w fun e w' =>
    e = .returned (.func (.func 64) #[] #[.pointer (some ⟨w.heap.size, 0, none⟩), .pointer (some ⟨w.heap.size + 1, 0, none⟩), .pointer (some ⟨w.heap.size + 1 + 1, 0, none⟩)]) ∧ boxes2 w mb = w' := by
  have H := hide (walk2_any mb w)
  go_enter Tryz.func32, Tryz.ntmps32
  go_wp2_with (go_at_call 52; (with_reducible refine (unhide H).mono ?_); rintro e w' ⟨rfl, rfl⟩)
  go_ret
  exact ⟨rfl, rfl⟩
end Go.Proofs.YtciahchpdmajbaaGreatDoor
