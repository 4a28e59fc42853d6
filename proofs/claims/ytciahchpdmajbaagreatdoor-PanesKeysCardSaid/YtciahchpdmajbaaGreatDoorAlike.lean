/- Alike: the walk. -/
import Derived.Test.YtciahchpdmajbaaGreatDoorBegins
namespace Go.Proofs.YtciahchpdmajbaaGreatDoor
open Go.RowKit
attribute [local go_sem ↓] Go.wp_at_zero Go.wp_at_succ

def AlikeDone (la lb : List Pn) (w : World) (e : Ending) (w' : World) : Prop := ∃ r, e = .returned (.bool r) ∧ (r = true ↔ la.length = lb.length ∧ ∀ k, keyed k la <+: keyed k lb) ∧ Below w.heap.size w w'

set_option maxHeartbeats 1000000 in
set_option maxRecDepth 100000 in
theorem alike_any (A1 : Option Addr) (n1 c1 : Nat) (la : List Pn) (A2 : Option Addr) (n2 c2 : Nat) (lb : List Pn) (w : World) (hn1 : la.length = n1) (hR1 : Rd w A1 la) (hn2 : lb.length = n2) (hR2 : Rd w A2 lb)
    (hl1 : n1 ≤ 10000) (hl2 : n2 ≤ 10000) (hs1 : ∀ p ∈ la, p.key.size ≤ maxLen) (hs2 : ∀ p ∈ lb, p.key.size ≤ maxLen) :
    Calls Tryz.prog 16 #[.slice A1 n1 c1, .slice A2 n2 c2] w (AlikeDone la lb w) := by
  have HB := hide (begins_any A1 n1 c1 la A2 n2 c2 lb w hn1 hR1 hn2 hR2 hl1 hl2 hs1 hs2)
  have HN1 := hide hn1
  have HN2 := hide hn2
  clear hn1 hn2 hR1 hR2 hs1 hs2
  by_cases h : n1 = n2
  · have t : ((n1 : Int) == (n2 : Int)) = true := by simp [h]
    have HH : Hid (la.length = lb.length) := by show _ = _; rw [HN1.out, HN2.out, h]
    clear h
    go_enter Tryz.func16, Tryz.ntmps16
    go_wp2_with (go_at_call 15; (with_reducible refine (unhide HB).mono ?_); rintro e w1 ⟨r, rfl, hr, hb⟩)
    go_ret
    exact ⟨r, rfl, by rw [hr]; exact ⟨fun h => ⟨HH.out, h⟩, fun h => h.2⟩, hb⟩
  · have t : ((n1 : Int) == (n2 : Int)) = false := by simp; omega
    have HH : Hid (¬ la.length = lb.length) := by show ¬ _; rw [HN1.out, HN2.out]; exact h
    clear h
    go_enter Tryz.func16, Tryz.ntmps16
    go_wp2_with fail
    go_ret
    exact ⟨false, rfl, ⟨fun h => (by cases h), fun h => absurd h.1 HH.out⟩, Below.refl _ _⟩
end Go.Proofs.YtciahchpdmajbaaGreatDoor
