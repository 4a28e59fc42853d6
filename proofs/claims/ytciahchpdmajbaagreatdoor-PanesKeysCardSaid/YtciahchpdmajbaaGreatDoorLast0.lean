/- The order of Last's keys: Or, and the comparison. -/
import Derived.Test.YtciahchpdmajbaaGreatDoorAlike
namespace Go.Proofs.YtciahchpdmajbaaGreatDoor
open Go.RowKit
attribute [local go_sem ↓] Go.wp_at_zero Go.wp_at_succ

def or3 (a b c : Int) : Int := if a = 0 then if b = 0 then c else b else a

set_option maxHeartbeats 1000000 in
set_option maxRecDepth 100000 in
theorem or_any (a b c : Int) (g cc : Nat) (w : World) (h0 : w.cell? ⟨g, 0, none⟩ = some (.int .i64 a)) (h1 : w.cell? ⟨g, 1, none⟩ = some (.int .i64 b)) (h2 : w.cell? ⟨g, 2, none⟩ = some (.int .i64 c)) :
    Calls Tryz.prog 28 #[.slice (some ⟨g, 0, none⟩) 3 cc] w fun e w' => e = .returned (.int .i64 (or3 a b c)) ∧ w = w' := by
  go_enter Tryz.func28, Tryz.ntmps28
  go_wp2
  go_loopw [8] (fun i wr => ∃ k : Nat, k ≤ 3 ∧ i = .int .i64 k ∧ (1 ≤ k → a = 0) ∧ (2 ≤ k → b = 0) ∧ (3 ≤ k → c = 0) ∧ wr = w) (fun i _ => 3 - (intOf i).toNat)
  case atStart => exact ⟨0, by omega, rfl, by omega, by omega, by omega, rfl⟩
  case round =>
    obtain ⟨k, hk, rfl, p1, p2, p3, rfl⟩ := hrel
    have hk4 : k = 0 ∨ k = 1 ∨ k = 2 ∨ k = 3 := by omega
    rcases hk4 with rfl | rfl | rfl | rfl
    · by_cases hz : a = 0
      · have t : (a != 0) = false := by simp [hz]
        have HZ := hide hz
        clear hz p1 p2 p3
        go_wp2_with fail
        go_roundw
        case rel => exact ⟨1, by omega, by go_num, fun _ => HZ.out, by omega, by omega, trivial⟩
        case measure => first | (simp [intOf]; done) | (simp [intOf]; omega) | omega
      · have t : (a != 0) = true := by simp [hz]
        have HZ : Hid (or3 a b c = a) := by show _ = _; unfold or3; rw [if_neg hz]
        clear hz p1 p2 p3
        go_wp2_with fail
        go_ret
        exact ⟨by rw [HZ.out]; rfl, rfl⟩
    · have ha := hide (p1 (by omega))
      by_cases hz : b = 0
      · have t : (b != 0) = false := by simp [hz]
        have HZ := hide hz
        clear hz p1 p2 p3
        go_wp2_with fail
        go_roundw
        case rel => exact ⟨2, by omega, by go_num, fun _ => ha.out, fun _ => HZ.out, by omega, trivial⟩
        case measure => first | (simp [intOf]; done) | (simp [intOf]; omega) | omega
      · have t : (b != 0) = true := by simp [hz]
        have HZ : Hid (or3 a b c = b) := by show _ = _; unfold or3; rw [if_pos ha.out, if_neg hz]
        clear hz p1 p2 p3
        go_wp2_with fail
        go_ret
        exact ⟨by rw [HZ.out]; rfl, rfl⟩
    · have ha := hide (p1 (by omega))
      have hb := hide (p2 (by omega))
      by_cases hz : c = 0
      · have t : (c != 0) = false := by simp [hz]
        have HZ := hide hz
        clear hz p1 p2 p3
        go_wp2_with fail
        go_roundw
        case rel => exact ⟨3, by omega, by go_num, fun _ => ha.out, fun _ => hb.out, fun _ => HZ.out, trivial⟩
        case measure => first | (simp [intOf]; done) | (simp [intOf]; omega) | omega
      · have t : (c != 0) = true := by simp [hz]
        have HZ : Hid (or3 a b c = c) := by show _ = _; unfold or3; rw [if_pos ha.out, if_pos hb.out]
        clear hz p1 p2 p3
        go_wp2_with fail
        go_ret
        exact ⟨by rw [HZ.out]; rfl, rfl⟩
    · have HZ : Hid (or3 a b c = 0) := by show _ = _; unfold or3; rw [if_pos (p1 (by omega)), if_pos (p2 (by omega)), p3 (by omega)]
      clear p1 p2 p3
      go_wp2_with fail
      go_ret
      exact ⟨by rw [HZ.out]; rfl, rfl⟩

theorem or3_acmp (a b : Ak) : or3 (scmp a.key b.key) (icmp a.s b.s) (icmp a.e b.e) = acmp a b := by
  by_cases h1 : scmp a.key b.key = 0 <;> by_cases h2 : icmp a.s b.s = 0 <;> simp [or3, acmp, h1, h2]

theorem n3a {W : World} {s : Nat} {x y z : Value} {t : TypeId} (hs : W.heap.size = s) : (W.alloc (.cells #[x, y, z] t)).drew.cell? ⟨s, 0, none⟩ = some x := by
  subst hs
  show (W.alloc _).cell? _ = _
  rw [cell_of_row _ _ _ _ _ (0, 0) (heap_alloc_new W _)]
  rfl
theorem n3b {W : World} {s : Nat} {x y z : Value} {t : TypeId} (hs : W.heap.size = s) : (W.alloc (.cells #[x, y, z] t)).drew.cell? ⟨s, 1, none⟩ = some y := by
  subst hs
  show (W.alloc _).cell? _ = _
  rw [cell_of_row _ _ _ _ _ (0, 0) (heap_alloc_new W _)]
  rfl
theorem n3c {W : World} {s : Nat} {x y z : Value} {t : TypeId} (hs : W.heap.size = s) : (W.alloc (.cells #[x, y, z] t)).drew.cell? ⟨s, 2, none⟩ = some z := by
  subst hs
  show (W.alloc _).cell? _ = _
  rw [cell_of_row _ _ _ _ _ (0, 0) (heap_alloc_new W _)]
  rfl
set_option maxHeartbeats 2000000 in
set_option maxRecDepth 100000 in
theorem lastCmp_any (a b : Ak) (w : World) : Calls Tryz.prog 27 #[a.val, b.val] w fun e w' => e = .returned (.int .i64 (acmp a b)) ∧ Below w.heap.size w w' := by
  have HC1 := hide fun (w : World) => cmpS_any a.key b.key w
  have HC2 := hide fun (w : World) => cmpI_any a.s b.s w
  have HC3 := hide fun (w : World) => cmpI_any a.e b.e w
  have HOr := hide (or_any (scmp a.key b.key) (icmp a.s b.s) (icmp a.e b.e))
  rw [← or3_acmp]
  go_enter Tryz.func27, Tryz.ntmps27
  go_wp2_with fail
  have h1 : ((w.alloc (.cells a.cells.toArray 59)).alloc (.cells b.cells.toArray 59)).heap[w.heap.size]? = some (.cells a.cells.toArray 59 (0, 0)) := (Below.heap_alloc _ _ _ (by simp)).trans (heap_alloc_new w _)
  have h2 : ((w.alloc (.cells a.cells.toArray 59)).alloc (.cells b.cells.toArray 59)).heap[w.heap.size + 1]? = some (.cells b.cells.toArray 59 (0, 0)) := by
    have := heap_alloc_new (w.alloc (.cells a.cells.toArray 59)) (.cells b.cells.toArray 59)
    rwa [World.size_alloc] at this
  have hb : Below w.heap.size w ((w.alloc (.cells a.cells.toArray 59)).alloc (.cells b.cells.toArray 59)) := ((Below.refl _ w).alloc (Nat.le_refl _) _).alloc (by simp) _
  have hs : ((w.alloc (.cells a.cells.toArray 59)).alloc (.cells b.cells.toArray 59)).heap.size = w.heap.size + 1 + 1 := by simp
  obtain ⟨W, hW⟩ : ∃ W, W = (w.alloc (.cells a.cells.toArray 59)).alloc (.cells b.cells.toArray 59) := ⟨_, rfl⟩
  (try rw [← hW])
  rw [← hW] at h1 h2 hb hs
  clear hW
  have e0 : W.cell? ⟨w.heap.size, 0, none⟩ = some (.string a.key) := by rw [cell_of_row W _ _ _ _ (0, 0) h1]; rfl
  have e1 : W.cell? ⟨w.heap.size, 1, none⟩ = some (.int .i64 a.s) := by rw [cell_of_row W _ _ _ _ (0, 0) h1]; rfl
  have e2 : W.cell? ⟨w.heap.size, 2, none⟩ = some (.int .i64 a.e) := by rw [cell_of_row W _ _ _ _ (0, 0) h1]; rfl
  have e3 : W.cell? ⟨w.heap.size + 1, 0, none⟩ = some (.string b.key) := by rw [cell_of_row W _ _ _ _ (0, 0) h2]; rfl
  have e4 : W.cell? ⟨w.heap.size + 1, 1, none⟩ = some (.int .i64 b.s) := by rw [cell_of_row W _ _ _ _ (0, 0) h2]; rfl
  have e5 : W.cell? ⟨w.heap.size + 1, 2, none⟩ = some (.int .i64 b.e) := by rw [cell_of_row W _ _ _ _ (0, 0) h2]; rfl
  have HB := hide hb
  clear h1 h2 hb
  go_region_held3 (fun w0 => w0.cell? ⟨w.heap.size, 0, none⟩ = some (.string a.key) ∧ w0.cell? ⟨w.heap.size, 1, none⟩ = some (.int .i64 a.s) ∧ w0.cell? ⟨w.heap.size, 2, none⟩ = some (.int .i64 a.e) ∧ w0.cell? ⟨w.heap.size + 1, 0, none⟩ = some (.string b.key) ∧ w0.cell? ⟨w.heap.size + 1, 1, none⟩ = some (.int .i64 b.s) ∧ w0.cell? ⟨w.heap.size + 1, 2, none⟩ = some (.int .i64 b.e)) (first | exact ⟨kd e0, kd e1, kd e2, kd e3, kd e4, kd e5⟩ | exact ⟨kd (ka e0), kd (ka e1), kd (ka e2), kd (ka e3), kd (ka e4), kd (ka e5)⟩)
    (first | (go_at_call 29; (with_reducible refine (unhide HC1 _).mono ?_); rintro e w1 ⟨rfl, rfl⟩) | (go_at_call 30; (with_reducible refine (unhide HC2 _).mono ?_); rintro e w1 ⟨rfl, rfl⟩) | (go_at_call 30; (with_reducible refine (unhide HC3 _).mono ?_); rintro e w1 ⟨rfl, rfl⟩) | (go_at_call 28; (with_reducible refine (unhide HOr _ _ _ (n3a hs) (n3b hs) (n3c hs)).mono ?_); rintro e w1 ⟨rfl, rfl⟩))
  all_goals go_wp2_with fail
  all_goals go_ret
  all_goals exact ⟨rfl, (HB.out.alloc (by rw [hs]; omega) _).drew⟩
end Go.Proofs.YtciahchpdmajbaaGreatDoor
