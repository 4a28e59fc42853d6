/- What Last makes: a map, an iterator. -/
import Derived.Test.YtciahchpdmajbaaDoorPut2a
namespace Go.Proofs.YtciahchpdmajbaaDoor
open Go.RowKit
attribute [local go_sem ↓] Go.wp_at_zero Go.wp_at_succ

set_option maxHeartbeats 400000 in
set_option maxRecDepth 100000 in
theorem New2_any (w : World) : Calls Tryd.prog 18 #[.func (.func 19) #[] #[]] w fun e w' => e = .returned (.tuple #[.pointer (some ⟨w.heap.size, 0, none⟩), .int .i64 0]) ∧ w.alloc (.cells #[.func (.func 19) #[] #[], .pointer none] 95) = w' := by
  have hnf : ∀ w : World, (binOp .eql 62 (.func (.func 19) #[] #[]) .nilFunc).run Tryd.prog w = .ok (.bool false) w := fun w => by kernel_rfl
  go_enter Tryd.func18, Tryd.ntmps18
  go_wp2
  go_ret2
  exact ⟨rfl, rfl⟩

/-- The iterator's three boxes. -/
abbrev boxes2 (w : World) (mb : Nat) : World := ((w.alloc (.cells #[.pointer (some ⟨mb, 0, none⟩)] 54)).alloc (.cells #[.bool false] 4)).alloc (.cells #[.func (.func 43) #[] #[]] 102)

set_option maxHeartbeats 400000 in
theorem walk2_any (mb : Nat) (w : World) : Calls Tryd.prog 42 #[.pointer (some ⟨mb, 0, none⟩), .bool false, .func (.func 43) #[] #[]] w fun e w' =>
    e = .returned (.func (.func 54) #[] #[.pointer (some ⟨w.heap.size, 0, none⟩), .pointer (some ⟨w.heap.size + 1, 0, none⟩), .pointer (some ⟨w.heap.size + 1 + 1, 0, none⟩)]) ∧ boxes2 w mb = w' := by
  go_enter Tryd.func42, Tryd.ntmps42
  go_wp2
  go_ret
  exact ⟨rfl, rfl⟩

set_option maxHeartbeats 400000 in
theorem All2_any (mb : Nat) (w : World) : Calls Tryd.prog 24 #[.pointer (some ⟨mb, 0, none⟩)] w fun e w' =>
    e = .returned (.func (.func 54) #[] #[.pointer (some ⟨w.heap.size, 0, none⟩), .pointer (some ⟨w.heap.size + 1, 0, none⟩), .pointer (some ⟨w.heap.size + 1 + 1, 0, none⟩)]) ∧ boxes2 w mb = w' := by
  have H := hide (walk2_any mb w)
  go_enter Tryd.func24, Tryd.ntmps24
  go_wp2_with (go_at_call 42; (with_reducible refine (unhide H).mono ?_); rintro e w' ⟨rfl, rfl⟩)
  go_ret
  exact ⟨rfl, rfl⟩
end Go.Proofs.YtciahchpdmajbaaDoor
