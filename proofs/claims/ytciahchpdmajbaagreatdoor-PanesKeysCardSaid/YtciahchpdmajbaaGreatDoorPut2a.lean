/- put, of the map of last panes: the whole. -/
import Derived.Test.YtciahchpdmajbaaGreatDoorPut2
namespace Go.Proofs.YtciahchpdmajbaaGreatDoor
open Go.RowKit
attribute [local go_sem ↓] Go.wp_at_zero Go.wp_at_succ

set_option maxHeartbeats 1000000 in
theorem put2_any (k : Ak) (v : Pn) (mb : Nat) (t : Tr Ak Pn) : ∀ w : World, In2 w t → t.many ≤ 10000 → w.cell? ⟨mb, 0, none⟩ = some (.func (.func 27) #[] #[]) →
    Calls Tryz.prog 51 #[.pointer (some ⟨mb, 0, none⟩), .pointer t.ad, k.val, v.val] w (Made2 w (t.put2 k v)) := by
  induction t with
  | nil =>
    intro w _ _ hc
    have hn : ∀ w : World, In2 w (.nil : Tr Ak Pn) := fun _ => trivial
    have ha : (Tr.nil : Tr Ak Pn).ad = none := rfl
    have hz : (Tr.nil : Tr Ak Pn).many + (Tr.nil : Tr Ak Pn).many ≤ 40000 := Nat.zero_le _
    have HB := hide (bx2_below k v w)
    obtain ⟨x0, x1, x2, x3, x4, x5, x6, x7, x8, x9, x10, x11⟩ := bx2_cells k v w
    show Calls Tryz.prog 51 #[.pointer (some ⟨mb, 0, none⟩), .pointer none, k.val, v.val] w _
    go_enter Tryz.func51, Tryz.ntmps51
    go_wp2_with (go_at_call 62; (with_reducible refine (with2_open (k := k) (v := v) (p := none) (q := none) .nil .nil _ ha ha (hn _) (hn _) hz).mono ?_); rintro e w1 ⟨b1, rfl, hi1, hb1⟩)
    go_ret
    exact ⟨_, rfl, hi1, rfl, (unhide HB).trans (hb1.mono (unhide HB).size)⟩
  | node b k' v' l r ihl ihr =>
    intro w hh hm hc
    have hm' : l.many + r.many + 1 ≤ 10000 := hm
    show Calls Tryz.prog 51 #[.pointer (some ⟨mb, 0, none⟩), .pointer (some ⟨b, 0, none⟩), k.val, v.val] w _
    rcases ordA.cases k k' with h | h | h
    · have e : Tr.put2 k v (.node b k' v' l r) = l.put2 k v ++ (k', v') :: r.list := by rw [Tr.put2, if_pos (by omega)]
      rw [e]
      exact put2_lt k v k' v' b mb l r w hh (by omega) hc h fun w h1 h2 => ihl w h1 (by omega) h2
    · have e : Tr.put2 k v (.node b k' v' l r) = l.list ++ (k', v) :: r.list := by rw [Tr.put2, if_neg (by omega), if_neg (by omega)]
      rw [e]
      exact put2_eq k v k' v' b mb l r w hh (by omega) hc h
    · have e : Tr.put2 k v (.node b k' v' l r) = l.list ++ (k', v') :: r.put2 k v := by rw [Tr.put2, if_neg (by omega), if_pos (by omega)]
      rw [e]
      exact put2_gt k v k' v' b mb l r w hh (by omega) hc h fun w h1 h2 => ihr w h1 (by omega) h2
end Go.Proofs.YtciahchpdmajbaaGreatDoor
