/- put, of the map of panes by keys: by induction on the tree. (By put_tpl.py.) -/
import Derived.Test.YtciahchpdmajbaaGreatDoorEven1
namespace Go.Proofs.YtciahchpdmajbaaGreatDoor
open Go.RowKit
attribute [local go_sem ↓] Go.wp_at_zero Go.wp_at_succ

/-- What a tree's list is with a key laid: by the tree's own order. -/
def Tr.put1 (k : ByteArray) (v : Sl) : Tr ByteArray Sl → List (ByteArray × Sl)
  | .nil => [(k, v)]
  | .node _ k' v' l r => if scmp k k' < 0 then l.put1 k v ++ (k', v') :: r.list else if 0 < scmp k k' then l.list ++ (k', v') :: r.put1 k v else l.list ++ (k', v) :: r.list
theorem Tr.put1_length (k : ByteArray) (v : Sl) (t : Tr ByteArray Sl) : (t.put1 k v).length ≤ t.many + 1 := by
  induction t with
  | nil => simp [Tr.put1]
  | node b k' v' l r hl hr =>
    have h1 := l.many_list
    have h2 := r.many_list
    unfold Tr.put1
    split
    · simp only [List.length_append, List.length_cons, Tr.many]; omega
    · split
      · simp only [List.length_append, List.length_cons, Tr.many]; omega
      · simp only [List.length_append, List.length_cons, Tr.many]; omega

set_option maxHeartbeats 2000000 in
set_option maxRecDepth 100000 in
theorem put1_lt (k : ByteArray) (A : Option Addr) (n c : Nat) (k' : ByteArray) (A' : Option Addr) (n' c' : Nat) (b mb : Nat) (l r : Tr ByteArray Sl) (w : World) (hh : In1 w (Tr.node b k' ⟨A', n', c'⟩ l r)) (hm : l.many + r.many ≤ 10000)
    (hc : w.cell? ⟨mb, 0, none⟩ = some (.func (.func 29) #[] #[])) (hs : scmp k k' = -1)
    (ih : ∀ w : World, In1 w l → w.cell? ⟨mb, 0, none⟩ = some (.func (.func 29) #[] #[]) → Calls Tryz.prog 44 #[.pointer (some ⟨mb, 0, none⟩), .pointer l.ad, .string k, .slice A n c] w (Made1 w (l.put1 k ⟨A, n, c⟩)))
    : Calls Tryz.prog 44 #[.pointer (some ⟨mb, 0, none⟩), .pointer (some ⟨b, 0, none⟩), .string k, .slice A n c] w (Made1 w (l.put1 k ⟨A, n, c⟩ ++ (k', ⟨A', n', c'⟩) :: r.list)) := by
  obtain ⟨c0, c1, c2, c3, c4, c5⟩ := hh.cells
  have hl : In1 w l := hh.2.1
  have hr : In1 w r := hh.2.2
  have IH := hide ih
  have HC := hide fun (m : Nat) => cmpS_any k k' (w.drewN m)
  have d0 : scmp k k' < 0 := by omega
  clear hh hs ih c4 c5
  go_enter Tryz.func44, Tryz.ntmps44
  go_wp2_with fail
  go_quiet ((go_at_call 29; with_reducible exact still_first (unhide HC _)))
  go_wp2_with fail
  obtain ⟨W, hW⟩ : ∃ W, W = w.drewN nq := ⟨_, rfl⟩
  rw [← hW]
  have e0 : W.cell? ⟨b, 0, none⟩ = some (.string k') := by rw [hW]; exact c0
  have e1 : W.cell? ⟨b, 1, none⟩ = some (.slice A' n' c') := by rw [hW]; exact c1
  have e2 : W.cell? ⟨b, 2, none⟩ = some (.pointer l.ad) := by rw [hW]; exact c2
  have e3 : W.cell? ⟨b, 3, none⟩ = some (.pointer r.ad) := by rw [hW]; exact c3
  have em : W.cell? ⟨mb, 0, none⟩ = some (.func (.func 29) #[] #[]) := by rw [hW]; exact hc
  have kl : In1 W l := by rw [hW]; exact hl.drewN _
  have kr : In1 W r := by rw [hW]; exact hr.drewN _
  have HB := hide (p := Below w.heap.size w W) (by rw [hW]; exact below_drewN (Below.refl _ _) _)
  clear hW c0 c1 c2 c3 hc hl hr
  have G1 := l.put1_length k ⟨A, n, c⟩
  go_region_held3 (fun w0 => w0.cell? ⟨b, 0, none⟩ = some (.string k') ∧ w0.cell? ⟨b, 1, none⟩ = some (.slice A' n' c') ∧ w0.cell? ⟨b, 2, none⟩ = some (.pointer l.ad) ∧ w0.cell? ⟨b, 3, none⟩ = some (.pointer r.ad)) (first | exact ⟨kd e0, kd e1, kd e2, kd e3⟩ | exact ⟨below_cell hb1 (kd e0), below_cell hb1 (kd e1), below_cell hb1 (kd e2), below_cell hb1 (kd e3)⟩ | exact ⟨below_cell hb2 (below_cell hb1 (kd e0)), below_cell hb2 (below_cell hb1 (kd e1)), below_cell hb2 (below_cell hb1 (kd e2)), below_cell hb2 (below_cell hb1 (kd e3))⟩)
    (first | (go_at_call 44; (with_reducible refine (unhide IH _ kl.drew (kd em)).mono ?_); rintro e w1 ⟨t1, rfl, hi1, hx1, hb1⟩) | (go_at_call 60; (with_reducible refine (even1_any k' A' n' c' t1 r _ hi1 (kr.drew.below hb1) (by rw [← t1.many_list, hx1]; omega)).mono ?_); rintro e w2 ⟨t2, rfl, hi2, hx2, hb2⟩))
  go_wp2_with fail
  go_ret
  exact ⟨t2, rfl, by first | exact hi2 | exact hi2.drew, by rw [hx2, hx1], by first | exact ((unhide HB).drew.trans (hb1.mono (unhide HB).size)).trans (hb2.mono (Nat.le_trans (unhide HB).size hb1.size)) | exact (((unhide HB).drew.trans (hb1.mono (unhide HB).size)).trans (hb2.mono (Nat.le_trans (unhide HB).size hb1.size))).drew⟩

set_option maxHeartbeats 2000000 in
set_option maxRecDepth 100000 in
theorem put1_gt (k : ByteArray) (A : Option Addr) (n c : Nat) (k' : ByteArray) (A' : Option Addr) (n' c' : Nat) (b mb : Nat) (l r : Tr ByteArray Sl) (w : World) (hh : In1 w (Tr.node b k' ⟨A', n', c'⟩ l r)) (hm : l.many + r.many ≤ 10000)
    (hc : w.cell? ⟨mb, 0, none⟩ = some (.func (.func 29) #[] #[])) (hs : scmp k k' = 1)
    (ih : ∀ w : World, In1 w r → w.cell? ⟨mb, 0, none⟩ = some (.func (.func 29) #[] #[]) → Calls Tryz.prog 44 #[.pointer (some ⟨mb, 0, none⟩), .pointer r.ad, .string k, .slice A n c] w (Made1 w (r.put1 k ⟨A, n, c⟩)))
    : Calls Tryz.prog 44 #[.pointer (some ⟨mb, 0, none⟩), .pointer (some ⟨b, 0, none⟩), .string k, .slice A n c] w (Made1 w (l.list ++ (k', ⟨A', n', c'⟩) :: r.put1 k ⟨A, n, c⟩)) := by
  obtain ⟨c0, c1, c2, c3, c4, c5⟩ := hh.cells
  have hl : In1 w l := hh.2.1
  have hr : In1 w r := hh.2.2
  have IH := hide ih
  have HC := hide fun (m : Nat) => cmpS_any k k' (w.drewN m)
  have d0 : 0 < scmp k k' := by omega
  clear hh hs ih c4 c5
  go_enter Tryz.func44, Tryz.ntmps44
  go_wp2_with fail
  go_quiet ((go_at_call 29; with_reducible exact still_first (unhide HC _)))
  go_wp2_with fail
  obtain ⟨W, hW⟩ : ∃ W, W = w.drewN nq := ⟨_, rfl⟩
  rw [← hW]
  have e0 : W.cell? ⟨b, 0, none⟩ = some (.string k') := by rw [hW]; exact c0
  have e1 : W.cell? ⟨b, 1, none⟩ = some (.slice A' n' c') := by rw [hW]; exact c1
  have e2 : W.cell? ⟨b, 2, none⟩ = some (.pointer l.ad) := by rw [hW]; exact c2
  have e3 : W.cell? ⟨b, 3, none⟩ = some (.pointer r.ad) := by rw [hW]; exact c3
  have em : W.cell? ⟨mb, 0, none⟩ = some (.func (.func 29) #[] #[]) := by rw [hW]; exact hc
  have kl : In1 W l := by rw [hW]; exact hl.drewN _
  have kr : In1 W r := by rw [hW]; exact hr.drewN _
  have HB := hide (p := Below w.heap.size w W) (by rw [hW]; exact below_drewN (Below.refl _ _) _)
  clear hW c0 c1 c2 c3 hc hl hr
  have G1 := r.put1_length k ⟨A, n, c⟩
  go_region_held3 (fun w0 => w0.cell? ⟨b, 0, none⟩ = some (.string k') ∧ w0.cell? ⟨b, 1, none⟩ = some (.slice A' n' c') ∧ w0.cell? ⟨b, 2, none⟩ = some (.pointer l.ad) ∧ w0.cell? ⟨b, 3, none⟩ = some (.pointer r.ad)) (first | exact ⟨kd e0, kd e1, kd e2, kd e3⟩ | exact ⟨below_cell hb1 (kd e0), below_cell hb1 (kd e1), below_cell hb1 (kd e2), below_cell hb1 (kd e3)⟩ | exact ⟨below_cell hb2 (below_cell hb1 (kd e0)), below_cell hb2 (below_cell hb1 (kd e1)), below_cell hb2 (below_cell hb1 (kd e2)), below_cell hb2 (below_cell hb1 (kd e3))⟩)
    (first | (go_at_call 44; (with_reducible refine (unhide IH _ kr.drew (kd em)).mono ?_); rintro e w1 ⟨t1, rfl, hi1, hx1, hb1⟩) | (go_at_call 60; (with_reducible refine (even1_any k' A' n' c' l t1 _ (kl.drew.below hb1) hi1 (by rw [← t1.many_list, hx1]; omega)).mono ?_); rintro e w2 ⟨t2, rfl, hi2, hx2, hb2⟩))
  go_wp2_with fail
  go_ret
  exact ⟨t2, rfl, by first | exact hi2 | exact hi2.drew, by rw [hx2, hx1], by first | exact ((unhide HB).drew.trans (hb1.mono (unhide HB).size)).trans (hb2.mono (Nat.le_trans (unhide HB).size hb1.size)) | exact (((unhide HB).drew.trans (hb1.mono (unhide HB).size)).trans (hb2.mono (Nat.le_trans (unhide HB).size hb1.size))).drew⟩

set_option maxHeartbeats 2000000 in
set_option maxRecDepth 100000 in
theorem put1_eq (k : ByteArray) (A : Option Addr) (n c : Nat) (k' : ByteArray) (A' : Option Addr) (n' c' : Nat) (b mb : Nat) (l r : Tr ByteArray Sl) (w : World) (hh : In1 w (Tr.node b k' ⟨A', n', c'⟩ l r)) (hm : l.many + r.many ≤ 10000)
    (hc : w.cell? ⟨mb, 0, none⟩ = some (.func (.func 29) #[] #[])) (hs : scmp k k' = 0)
    : Calls Tryz.prog 44 #[.pointer (some ⟨mb, 0, none⟩), .pointer (some ⟨b, 0, none⟩), .string k, .slice A n c] w (Made1 w (l.list ++ (k', ⟨A, n, c⟩) :: r.list)) := by
  obtain ⟨c0, c1, c2, c3, c4, c5⟩ := hh.cells
  have hl : In1 w l := hh.2.1
  have hr : In1 w r := hh.2.2
  have HC := hide fun (m : Nat) => cmpS_any k k' (w.drewN m)
  have d0 : ¬ (scmp k k' < 0) := by omega
  have d1 : ¬ (0 < scmp k k') := by omega
  clear hh hs  c4 c5
  go_enter Tryz.func44, Tryz.ntmps44
  go_wp2_with fail
  go_quiet ((go_at_call 29; with_reducible exact still_first (unhide HC _)))
  go_wp2_with fail
  obtain ⟨W, hW⟩ : ∃ W, W = w.drewN nq := ⟨_, rfl⟩
  rw [← hW]
  have e0 : W.cell? ⟨b, 0, none⟩ = some (.string k') := by rw [hW]; exact c0
  have e1 : W.cell? ⟨b, 1, none⟩ = some (.slice A' n' c') := by rw [hW]; exact c1
  have e2 : W.cell? ⟨b, 2, none⟩ = some (.pointer l.ad) := by rw [hW]; exact c2
  have e3 : W.cell? ⟨b, 3, none⟩ = some (.pointer r.ad) := by rw [hW]; exact c3
  have em : W.cell? ⟨mb, 0, none⟩ = some (.func (.func 29) #[] #[]) := by rw [hW]; exact hc
  have kl : In1 W l := by rw [hW]; exact hl.drewN _
  have kr : In1 W r := by rw [hW]; exact hr.drewN _
  have HB := hide (p := Below w.heap.size w W) (by rw [hW]; exact below_drewN (Below.refl _ _) _)
  clear hW c0 c1 c2 c3 hc hl hr
  have G1 : l.many + r.many ≤ 40000 := by omega
  go_region_held3 (fun w0 => w0.cell? ⟨b, 0, none⟩ = some (.string k') ∧ w0.cell? ⟨b, 1, none⟩ = some (.slice A' n' c') ∧ w0.cell? ⟨b, 2, none⟩ = some (.pointer l.ad) ∧ w0.cell? ⟨b, 3, none⟩ = some (.pointer r.ad)) (first | exact ⟨kd e0, kd e1, kd e2, kd e3⟩ | exact ⟨kd (ka e0), kd (ka e1), kd (ka e2), kd (ka e3)⟩)
    (first | (go_at_call 59; (with_reducible refine (with1_any k' A n c l r _ kl.drew kr.drew G1).mono ?_); rintro e w1 ⟨rfl, rfl⟩))
  go_wp2_with fail
  go_ret
  exact ⟨Tr.node W.heap.size k' ⟨A, n, c⟩ l r, rfl, (In1.new kl kr).drew, by simp [Tr.list], ((unhide HB).alloc (unhide HB).size _).drew⟩

set_option maxHeartbeats 1000000 in
theorem put1_any (k : ByteArray) (A : Option Addr) (n c : Nat) (mb : Nat) (t : Tr ByteArray Sl) : ∀ w : World, In1 w t → t.many ≤ 10000 → w.cell? ⟨mb, 0, none⟩ = some (.func (.func 29) #[] #[]) →
    Calls Tryz.prog 44 #[.pointer (some ⟨mb, 0, none⟩), .pointer t.ad, .string k, .slice A n c] w (Made1 w (t.put1 k ⟨A, n, c⟩)) := by
  induction t with
  | nil =>
    intro w _ _ hc
    have hn : In1 w (.nil : Tr ByteArray Sl) := trivial
    have ha : (Tr.nil : Tr ByteArray Sl).ad = none := rfl
    have hz : (Tr.nil : Tr ByteArray Sl).many + (Tr.nil : Tr ByteArray Sl).many ≤ 40000 := Nat.zero_le _
    have H := hide (In1.new (k := k) (v := ⟨A, n, c⟩) hn hn)
    show Calls Tryz.prog 44 #[.pointer (some ⟨mb, 0, none⟩), .pointer none, .string k, .slice A n c] w _
    go_enter Tryz.func44, Tryz.ntmps44
    go_wp2_with (go_at_call 59; (with_reducible refine (with1_open (k := k) (p := none) (q := none) .nil .nil _ ha ha hn hn hz).mono ?_); rintro e w1 ⟨rfl, rfl⟩)
    go_ret
    exact ⟨_, rfl, H.out, rfl, (Below.refl _ _).alloc (Nat.le_refl _) _⟩
  | node b k' v' l r ihl ihr =>
    intro w hh hm hc
    have hm' : l.many + r.many + 1 ≤ 10000 := hm
    show Calls Tryz.prog 44 #[.pointer (some ⟨mb, 0, none⟩), .pointer (some ⟨b, 0, none⟩), .string k, .slice A n c] w _
    rcases scmp_cases k k' with h | h | h
    · have e : Tr.put1 k ⟨A, n, c⟩ (.node b k' v' l r) = l.put1 k ⟨A, n, c⟩ ++ (k', v') :: r.list := by rw [Tr.put1, if_pos (by omega)]
      rw [e]
      exact put1_lt k A n c k' v'.a v'.n v'.c b mb l r w hh (by omega) hc h fun w h1 h2 => ihl w h1 (by omega) h2
    · have e : Tr.put1 k ⟨A, n, c⟩ (.node b k' v' l r) = l.list ++ (k', ⟨A, n, c⟩) :: r.list := by rw [Tr.put1, if_neg (by omega), if_neg (by omega)]
      rw [e]
      exact put1_eq k A n c k' v'.a v'.n v'.c b mb l r w hh (by omega) hc h
    · have e : Tr.put1 k ⟨A, n, c⟩ (.node b k' v' l r) = l.list ++ (k', v') :: r.put1 k ⟨A, n, c⟩ := by rw [Tr.put1, if_neg (by omega), if_pos (by omega)]
      rw [e]
      exact put1_gt k A n c k' v'.a v'.n v'.c b mb l r w hh (by omega) hc h fun w h1 h2 => ihr w h1 (by omega) h2
end Go.Proofs.YtciahchpdmajbaaGreatDoor
