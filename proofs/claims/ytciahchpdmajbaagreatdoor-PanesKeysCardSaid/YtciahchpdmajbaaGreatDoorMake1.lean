/- What Keys makes: a map, an iterator, a clone of a row. -/
import Derived.Test.YtciahchpdmajbaaGreatDoorIter1
import Derived.Test.YtciahchpdmajbaaGreatDoorOf
namespace Go.Proofs.YtciahchpdmajbaaGreatDoor
open Go.RowKit
attribute [local go_sem ↓] Go.wp_at_zero Go.wp_at_succ

set_option maxHeartbeats 400000 in
theorem Of1_any (w : World) : Calls Tryz.prog 21 #[] w fun e w' => e = .returned (.pointer (some ⟨w.heap.size, 0, none⟩)) ∧ w.alloc (.cells #[.func (.func 29) #[] #[], .pointer none] 91) = w' := by
  go_enter Tryz.func21, Tryz.ntmps21
  go_wp2
  go_ret
  exact ⟨rfl, rfl⟩

/-- The iterator's three boxes. -/
abbrev boxes1 (w : World) (mb : Nat) : World := ((w.alloc (.cells #[.pointer (some ⟨mb, 0, none⟩)] 46)).alloc (.cells #[.bool false] 4)).alloc (.cells #[.func (.func 46) #[] #[]] 96)

set_option maxHeartbeats 400000 in
theorem walk1_any (mb : Nat) (w : World) : Calls Tryz.prog 45 #[.pointer (some ⟨mb, 0, none⟩), .bool false, .func (.func 46) #[] #[]] w fun e w' =>
    e = .returned (.func (.func 61) #[] #[.pointer (some ⟨w.heap.size, 0, none⟩), .pointer (some ⟨w.heap.size + 1, 0, none⟩), .pointer (some ⟨w.heap.size + 1 + 1, 0, none⟩)]) ∧ boxes1 w mb = w' := by
  go_enter Tryz.func45, Tryz.ntmps45
  go_wp2
  go_ret
  exact ⟨rfl, rfl⟩

set_option maxHeartbeats 400000 in
theorem All1_any (mb : Nat) (w : World) : Calls Tryz.prog 24 #[.pointer (some ⟨mb, 0, none⟩)] w fun e w' =>
    e = .returned (.func (.func 61) #[] #[.pointer (some ⟨w.heap.size, 0, none⟩), .pointer (some ⟨w.heap.size + 1, 0, none⟩), .pointer (some ⟨w.heap.size + 1 + 1, 0, none⟩)]) ∧ boxes1 w mb = w' := by
  have H := hide (walk1_any mb w)
  go_enter Tryz.func24, Tryz.ntmps24
  go_wp2_with (go_at_call 45; (with_reducible refine (unhide H).mono ?_); rintro e w' ⟨rfl, rfl⟩)
  go_ret
  exact ⟨rfl, rfl⟩

/-- The clone of a row of panes that is not empty. -/
def CloneDone (ps : List Pn) (w : World) (e : Ending) (w' : World) : Prop := ∃ v, e = .returned v ∧ w'.ownsRow w.heap.size 40 9 v ps.length (cellsOf ps) ∧ Below w.heap.size w w'

set_option maxHeartbeats 1000000 in
set_option maxRecDepth 100000 in
theorem Clone_any (B g n c : Nat) (ps : List Pn) (w : World) (hn : ps.length = n) (hown : w.ownsRow B 40 9 (.slice (some ⟨g, 0, none⟩) n c) n (cellsOf ps)) (hlen : n ≤ 10000) :
    Calls Tryz.prog 25 #[.slice (some ⟨g, 0, none⟩) n c] w (CloneDone ps w) := by
  obtain ⟨i0, hi, hz0, hz1, hz2⟩ := info_parts info_Pane
  have HN := hide hn
  have HO := hide hown
  have hnl : ∀ w : World, (binOp .eql 22 (.slice (some ⟨g, 0, none⟩) n c) (.slice none 0 0)).run Tryz.prog w = .ok (.bool false) w := fun w => by kernel_rfl
  have h0 : (w.alloc (.cells #[] 40)).ownsRow w.heap.size 40 9 (.slice (some ⟨w.heap.size, 0, none⟩) 0 0) 0 [] := ⟨rfl, .inr ⟨w.heap.size, 0, #[], rfl, Nat.le_refl _, heap_alloc_new w _, Nat.le_refl _, Nat.zero_le _, rfl, rfl⟩⟩
  have hnews : ∀ j u, (cellsOf ps)[j]? = some u → (w.alloc (.cells #[] 40)).cell? ((⟨g, 0, none⟩ : Addr).add j) = some u := (HO.out.alloc (.cells #[] 40)).cells rfl
  have HNW := hide hnews
  have hcl : (cellsOf ps).length = n * 9 := by rw [cellsOf_length, hn]
  have HCL := hide hcl
  clear hn hown hnews hcl
  go_enter Tryz.func25, Tryz.ntmps25
  go_wp2_with (at_builtin; refine wpList_append_own _ rfl _ _ 22 rfl w.heap.size 40 i0 zeroPane 9 80 Tryz.underlying22 hi hz0 hz1 hz2 rfl (by decide) _ _ _ rfl h0 ⟨g, 0, none⟩ n c (cellsOf ps) rfl HCL.out HNW.out (cellsOf_one' ps) (by unfold maxLen; omega) (by omega) (by simp) ?_; intro v' w1 hown' hgrow _)
  go_ret
  refine ⟨_, rfl, ?_, ?_⟩
  · rw [HN.out]
    simpa using hown'
  · exact ((Below.refl _ w).alloc (Nat.le_refl _) _).grown hgrow (by simp) (fun r hr => (own_block h0 hr).1)
end Go.Proofs.YtciahchpdmajbaaGreatDoor
