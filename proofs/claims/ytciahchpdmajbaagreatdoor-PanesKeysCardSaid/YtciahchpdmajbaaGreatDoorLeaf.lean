/- The leaves: the two comparisons of cmp, and the store's small functions: what each returns, the world as it was. -/
import Derived.Test.YtciahchpdmajbaaGreatDoorProg
import Derived.WalkKit
import Derived.WalkSpells
import Derived.WalkLawsBesides
namespace Go.Proofs.YtciahchpdmajbaaGreatDoor
open Go.RowKit

/-- how cmp.Compare orders two strings' bytes. -/
def scmp (a b : ByteArray) : Int := if Op.bytesLess a.toList b.toList then -1 else if a.toList == b.toList then 0 else 1
def icmp (a b : Int) : Int := if a < b then -1 else if b < a then 1 else 0
theorem ret_int {k : IntKind} {a b : Int} (h : a = b) : Ending.returned (.int k a) = .returned (.int k b) := by rw [h]
theorem scmp_lt {a b : ByteArray} (h : Op.bytesLess a.toList b.toList = true) : scmp a b = -1 := by simp [scmp, h]
theorem scmp_gt {a b : ByteArray} (h : Op.bytesLess a.toList b.toList = false) (h' : (!a.toList == b.toList) = true) : scmp a b = 1 := by
  simp only [Bool.not_eq_true'] at h'
  simp [scmp, h, h']
theorem scmp_eq {a b : ByteArray} (h : Op.bytesLess a.toList b.toList = false) (h' : (!a.toList == b.toList) = false) : scmp a b = 0 := by
  simp only [Bool.not_eq_false'] at h'
  simp [scmp, h, h']
theorem scmp_cases (a b : ByteArray) : scmp a b = -1 ∨ scmp a b = 0 ∨ scmp a b = 1 := by
  unfold scmp
  split
  · exact .inl rfl
  · split
    · exact .inr (.inl rfl)
    · exact .inr (.inr rfl)
theorem icmp_lt {a b : Int} (h : a < b) : icmp a b = -1 := by unfold icmp; rw [if_pos h]
theorem icmp_gt {a b : Int} (h : b < a) : icmp a b = 1 := by unfold icmp; rw [if_neg (by omega), if_pos h]
theorem icmp_eq {a b : Int} (h : b ≤ a) (h' : a ≤ b) : icmp a b = 0 := by unfold icmp; rw [if_neg (by omega), if_neg (by omega)]

set_option maxHeartbeats 400000 in
theorem nanS_any (a : ByteArray) (w : World) : Calls Tryz.prog 47 #[.string a] w fun e w' => e = .returned (.bool false) ∧ w = w' := by
  go_enter Tryz.func47, Tryz.ntmps47
  go_wp2
  go_ret
  exact ⟨by simp, rfl⟩

set_option maxHeartbeats 400000 in
theorem nanI_any (a : Int) (w : World) : Calls Tryz.prog 48 #[.int .i64 a] w fun e w' => e = .returned (.bool false) ∧ w = w' := by
  go_enter Tryz.func48, Tryz.ntmps48
  go_wp2
  go_ret
  exact ⟨by simp, rfl⟩

set_option maxHeartbeats 400000 in
theorem high1_nil (w : World) : Calls Tryz.prog 78 #[.pointer none] w fun e w' => e = .returned (.int .i64 0) ∧ w = w' := by
  go_enter Tryz.func78, Tryz.ntmps78
  go_wp2
  go_ret
  exact ⟨rfl, rfl⟩

set_option maxHeartbeats 400000 in
theorem high1_node (b : Nat) (h : Int) (w : World) (hc : w.cell? ⟨b, 4, none⟩ = some (.int .i64 h)) : Calls Tryz.prog 78 #[.pointer (some ⟨b, 0, none⟩)] w fun e w' => e = .returned (.int .i64 h) ∧ w = w' := by
  go_enter Tryz.func78, Tryz.ntmps78
  go_wp2
  go_ret
  exact ⟨rfl, rfl⟩

set_option maxHeartbeats 400000 in
theorem many1_nil (w : World) : Calls Tryz.prog 79 #[.pointer none] w fun e w' => e = .returned (.int .i64 0) ∧ w = w' := by
  go_enter Tryz.func79, Tryz.ntmps79
  go_wp2
  go_ret
  exact ⟨rfl, rfl⟩

set_option maxHeartbeats 400000 in
theorem many1_node (b : Nat) (h : Int) (w : World) (hc : w.cell? ⟨b, 5, none⟩ = some (.int .i64 h)) : Calls Tryz.prog 79 #[.pointer (some ⟨b, 0, none⟩)] w fun e w' => e = .returned (.int .i64 h) ∧ w = w' := by
  go_enter Tryz.func79, Tryz.ntmps79
  go_wp2
  go_ret
  exact ⟨rfl, rfl⟩

set_option maxHeartbeats 400000 in
theorem cmpS_any (a b : ByteArray) (w : World) : Calls Tryz.prog 29 #[.string a, .string b] w fun e w' => e = .returned (.int .i64 (scmp a b)) ∧ w = w' := by
  go_enter Tryz.func29, Tryz.ntmps29
  go_wp2_with (go_at_call 47; refine (nanS_any _ _).mono ?_; rintro e w' ⟨rfl, rfl⟩)
  all_goals go_ret
  · exact ⟨ret_int (scmp_lt ‹_›).symm, rfl⟩
  · exact ⟨ret_int (scmp_gt ‹_› ‹_›).symm, rfl⟩
  · exact ⟨ret_int (scmp_eq ‹_› ‹_›).symm, rfl⟩

set_option maxHeartbeats 400000 in
theorem cmpI_any (a b : Int) (w : World) : Calls Tryz.prog 30 #[.int .i64 a, .int .i64 b] w fun e w' => e = .returned (.int .i64 (icmp a b)) ∧ w = w' := by
  go_enter Tryz.func30, Tryz.ntmps30
  go_wp2_with (go_at_call 48; refine (nanI_any _ _).mono ?_; rintro e w' ⟨rfl, rfl⟩)
  all_goals go_ret
  · exact ⟨ret_int (icmp_lt ‹a < b›).symm, rfl⟩
  · exact ⟨ret_int (icmp_gt ‹b < a›).symm, rfl⟩
  · exact ⟨ret_int (icmp_eq ‹b ≤ a› ‹a ≤ b›).symm, rfl⟩

set_option maxHeartbeats 400000 in
theorem allF1_any (a : ByteArray) (w : World) : Calls Tryz.prog 46 #[.string a] w fun e w' => e = .returned (.bool false) ∧ w = w' := by
  go_enter Tryz.func46, Tryz.ntmps46
  go_wp2
  go_ret
  exact ⟨rfl, rfl⟩

set_option maxHeartbeats 400000 in
set_option maxRecDepth 100000 in
theorem none1_ok (b : Nat) (g : Nat) (w : World) (hc : w.cell? ⟨b, 0, none⟩ = some (.func (.func g) #[] #[])) : Calls Tryz.prog 43 #[.pointer (some ⟨b, 0, none⟩)] w fun e w' => e = .returned (.bool false) ∧ w = w' := by
  have hq : ∀ w : World, (binOp .eql 61 (.func (.func g) #[] #[]) .nilFunc).run Tryz.prog w = .ok (.bool false) w := fun _ => by kernel_rfl
  go_enter Tryz.func43, Tryz.ntmps43
  go_wp2
  go_ret
  exact ⟨rfl, rfl⟩
end Go.Proofs.YtciahchpdmajbaaGreatDoor
