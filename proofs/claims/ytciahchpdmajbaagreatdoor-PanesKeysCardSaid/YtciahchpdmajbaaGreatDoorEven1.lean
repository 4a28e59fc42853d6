/- even, of the map of panes by keys: a node of a key and two trees, the trees being as high as they may be beside one another: what it makes has the same list. (By even_tpl.py.) -/
import Derived.Test.YtciahchpdmajbaaGreatDoorWith1
import Derived.Deep.QuietTactic
import Derived.BigQuiet
import Derived.Deep.RegionHeld3
import Derived.Deep.DrawnRows
namespace Go.Proofs.YtciahchpdmajbaaGreatDoor
open Go.RowKit
attribute [local go_sem ↓] Go.wp_at_zero Go.wp_at_succ

/-- What a function that makes a tree gives. -/
def Made1 (w : World) (xs : List (ByteArray × Sl)) (e : Ending) (w' : World) : Prop :=
  ∃ t : Tr ByteArray Sl, e = .returned (.pointer t.ad) ∧ In1 w' t ∧ t.list = xs ∧ Below w.heap.size w w'

set_option maxHeartbeats 1000000 in
set_option maxRecDepth 100000 in
theorem even1_mid (k : ByteArray) (A : Option Addr) (n c : Nat) (l r : Tr ByteArray Sl) (w : World) (hl : In1 w l) (hr : In1 w r) (hm : l.many + r.many ≤ 30000)
    (h1 : l.high ≤ r.high + 1) (h2 : r.high ≤ l.high + 1) :
    Calls Tryz.prog 60 #[.string k, .slice A n c, .pointer l.ad, .pointer r.ad] w (Made1 w (l.list ++ (k, ⟨A, n, c⟩) :: r.list)) := by
  have q1 := l.high_le
  have q2 := r.high_le
  have H := hide (In1.new (k := k) (v := ⟨A, n, c⟩) hl hr)
  have d1 : ¬ ((r.high : Int) + 1 < (l.high : Int)) := by omega
  have d2 : ¬ ((l.high : Int) + 1 < (r.high : Int)) := by omega
  go_enter Tryz.func60, Tryz.ntmps60
  go_wp2_with (first | (go_at_call 78; refine (high1_tr _ _ (by assumption)).mono ?_; rintro e w' ⟨rfl, rfl⟩) | (go_at_call 59; refine (with1_any _ _ _ _ _ _ _ (by assumption) (by assumption) (by omega)).mono ?_; rintro e w' ⟨rfl, rfl⟩))
  go_ret
  exact ⟨_, rfl, H.out, rfl, (Below.refl _ _).alloc (Nat.le_refl _) _⟩

set_option maxHeartbeats 2000000 in
set_option maxRecDepth 100000 in
theorem even1_left (k : ByteArray) (A : Option Addr) (n c : Nat) (kl : ByteArray) (Al : Option Addr) (nl cl : Nat) (bl : Nat) (ll lr r : Tr ByteArray Sl) (w : World) (hh : In1 w (Tr.node bl kl ⟨Al, nl, cl⟩ ll lr)) (ho : In1 w r) (hm : ll.many + lr.many + r.many ≤ 30000)
    (h1 : r.high + 1 < (Tr.node bl kl ⟨Al, nl, cl⟩ ll lr).high) (h2 : lr.high ≤ ll.high) :
    Calls Tryz.prog 60 #[.string k, .slice A n c, .pointer (some ⟨bl, 0, none⟩), .pointer r.ad] w (Made1 w ((Tr.node bl kl ⟨Al, nl, cl⟩ ll lr).list ++ (k, ⟨A, n, c⟩) :: r.list)) := by
  have q0 := ll.high_le
  have q1 := lr.high_le
  have q2 := r.high_le
  obtain ⟨c0, c1, c2, c3, c4, c5⟩ := hh.cells
  obtain ⟨_, hll, hlr⟩ := hh
  have d7 := Tr.high_le (Tr.node bl kl ⟨Al, nl, cl⟩ ll lr)
  simp only [Tr.many] at d7
  obtain ⟨hs, hhs⟩ : ∃ hs : Nat, hs = (Tr.node bl kl ⟨Al, nl, cl⟩ ll lr).high := ⟨_, rfl⟩
  rw [← hhs] at h1 d7 c4
  clear hhs
  have d0 : (r.high : Int) + 1 < (hs : Int) := by omega
  have d8 : (hs : Int) ≤ 60000 := by omega
  clear d7
  have d3 : (lr.high : Int) ≤ (ll.high : Int) := by omega
  have HFar := hide fun m : Nat => high1_tr lr (w.drewN m) (hlr.drewN _)
  have HT := hide fun (w0 : World) h0 => high1_node bl (hs : Int) w0 h0
  have HO := hide (high1_tr r w ho)
  have HNear := hide fun m : Nat => high1_tr ll (w.drewN m) (hll.drewN _)
  clear h1 h2
  go_enter Tryz.func60, Tryz.ntmps60
  go_wp2_with (go_at_call 78; first | (with_reducible refine (unhide HO).mono ?_; rintro e w' ⟨rfl, rfl⟩) | (with_reducible refine (unhide HT _ (by assumption)).mono ?_; rintro e w' ⟨rfl, rfl⟩))
  go_quiet ((go_at_call 78; (first | (with_reducible exact still_first (unhide HNear _)) | (with_reducible exact still_first (unhide HFar _)))))
  go_wp2_with fail
  obtain ⟨W, hW⟩ : ∃ W, W = w.drewN nq := ⟨_, rfl⟩
  rw [← hW]
  have e0 : W.cell? ⟨bl, 0, none⟩ = some (.string kl) := by rw [hW]; exact c0
  have e1 : W.cell? ⟨bl, 1, none⟩ = some (.slice Al nl cl) := by rw [hW]; exact c1
  have e2 : W.cell? ⟨bl, 2, none⟩ = some (.pointer ll.ad) := by rw [hW]; exact c2
  have e3 : W.cell? ⟨bl, 3, none⟩ = some (.pointer lr.ad) := by rw [hW]; exact c3
  have kll : In1 W ll := by rw [hW]; exact hll.drewN _
  have klr : In1 W lr := by rw [hW]; exact hlr.drewN _
  have kr : In1 W r := by rw [hW]; exact ho.drewN _
  have hb : Below w.heap.size w W := by rw [hW]; exact below_drewN (Below.refl _ _) _
  clear hW c0 c1 c2 c3 c4 c5 ho hll hlr
  have HB := hide hb
  clear hb
  have g1 : (lr).many + (r).many ≤ 40000 := by first | omega | (simp only [Tr.many]; omega)
  have g2 : (ll).many + (Tr.node W.heap.size k ⟨A, n, c⟩ lr r).many ≤ 40000 := by first | omega | (simp only [Tr.many]; omega)
  go_region_held3 (fun w0 => w0.cell? ⟨bl, 0, none⟩ = some (.string kl) ∧ w0.cell? ⟨bl, 1, none⟩ = some (.slice Al nl cl) ∧ w0.cell? ⟨bl, 2, none⟩ = some (.pointer ll.ad) ∧ w0.cell? ⟨bl, 3, none⟩ = some (.pointer lr.ad)) (first | exact ⟨kd e0, kd e1, kd e2, kd e3⟩ | exact ⟨kd (ka e0), kd (ka e1), kd (ka e2), kd (ka e3)⟩ | exact ⟨kd (ka (ka e0)), kd (ka (ka e1)), kd (ka (ka e2)), kd (ka (ka e3))⟩)
    (first | (go_at_call 59; with_reducible refine (with1_open (k := k) (p := lr.ad) (q := r.ad) (lr) (r) _ rfl rfl (klr.drew) (kr.drew) g1).mono ?_; rintro e w' ⟨rfl, rfl⟩) | (go_at_call 59; with_reducible refine (with1_open (k := kl) (p := ll.ad) (q := (some ⟨W.heap.size, 0, none⟩)) (ll) (Tr.node W.heap.size k ⟨A, n, c⟩ lr r) _ rfl Tr.ad_node ((kll.alloc _).drew) ((In1.new klr kr).drew) g2).mono ?_; rintro e w' ⟨rfl, rfl⟩))
  go_wp2_with fail
  go_ret
  exact ⟨Tr.node (W.heap.size + 1) kl ⟨Al, nl, cl⟩ ll (Tr.node W.heap.size k ⟨A, n, c⟩ lr r), rfl, (In1.at_ (by simp) (kll.alloc _) (In1.new klr kr)).drew, by simp [Tr.list], ((((unhide HB).alloc (unhide HB).size _).alloc (by have := (unhide HB).size; simp; omega) _).drew)⟩

set_option maxHeartbeats 2000000 in
set_option maxRecDepth 100000 in
theorem even1_left2 (k : ByteArray) (A : Option Addr) (n c : Nat) (kl : ByteArray) (Al : Option Addr) (nl cl : Nat) (km : ByteArray) (Am : Option Addr) (nm cm : Nat) (bl bm : Nat) (ml mr ll r : Tr ByteArray Sl) (w : World) (hh : In1 w (Tr.node bl kl ⟨Al, nl, cl⟩ ll (Tr.node bm km ⟨Am, nm, cm⟩ ml mr))) (ho : In1 w r) (hm : ml.many + mr.many + ll.many + r.many ≤ 30000)
    (h1 : r.high + 1 < (Tr.node bl kl ⟨Al, nl, cl⟩ ll (Tr.node bm km ⟨Am, nm, cm⟩ ml mr)).high) (h2 : ll.high < ((Tr.node bm km ⟨Am, nm, cm⟩ ml mr)).high) :
    Calls Tryz.prog 60 #[.string k, .slice A n c, .pointer (some ⟨bl, 0, none⟩), .pointer r.ad] w (Made1 w ((Tr.node bl kl ⟨Al, nl, cl⟩ ll (Tr.node bm km ⟨Am, nm, cm⟩ ml mr)).list ++ (k, ⟨A, n, c⟩) :: r.list)) := by
  have q0 := ml.high_le
  have q1 := mr.high_le
  have q2 := ll.high_le
  have q3 := r.high_le
  obtain ⟨c0, c1, c2, c3, c4, c5⟩ := hh.cells
  obtain ⟨_, hll, hlr⟩ := hh
  obtain ⟨m0, m1, m2, m3, m4, m5⟩ := In1.cells hlr
  obtain ⟨_, hml, hmr⟩ := id hlr
  have d7 := Tr.high_le (Tr.node bl kl ⟨Al, nl, cl⟩ ll (Tr.node bm km ⟨Am, nm, cm⟩ ml mr))
  simp only [Tr.many] at d7
  obtain ⟨hs, hhs⟩ : ∃ hs : Nat, hs = (Tr.node bl kl ⟨Al, nl, cl⟩ ll (Tr.node bm km ⟨Am, nm, cm⟩ ml mr)).high := ⟨_, rfl⟩
  rw [← hhs] at h1 d7 c4
  clear hhs
  have d0 : (r.high : Int) + 1 < (hs : Int) := by omega
  have d8 : (hs : Int) ≤ 60000 := by omega
  clear d7
  obtain ⟨hf, hhf⟩ : ∃ hf : Nat, hf = ((Tr.node bm km ⟨Am, nm, cm⟩ ml mr)).high := ⟨_, rfl⟩
  rw [← hhf] at h2 m4
  clear hhf
  have d3 : ¬ ((hf : Int) ≤ (ll.high : Int)) := by omega
  have HFar := hide fun m : Nat => high1_node bm (hf : Int) (w.drewN m) m4
  replace c3 : w.cell? ⟨bl, 3, none⟩ = some (.pointer (some ⟨bm, 0, none⟩)) := c3
  have HT := hide fun (w0 : World) h0 => high1_node bl (hs : Int) w0 h0
  have HO := hide (high1_tr r w ho)
  have HNear := hide fun m : Nat => high1_tr ll (w.drewN m) (hll.drewN _)
  clear hlr
  clear h1 h2
  go_enter Tryz.func60, Tryz.ntmps60
  go_wp2_with (go_at_call 78; first | (with_reducible refine (unhide HO).mono ?_; rintro e w' ⟨rfl, rfl⟩) | (with_reducible refine (unhide HT _ (by assumption)).mono ?_; rintro e w' ⟨rfl, rfl⟩))
  go_quiet ((go_at_call 78; (first | (with_reducible exact still_first (unhide HNear _)) | (with_reducible exact still_first (unhide HFar _)))))
  go_wp2_with fail
  obtain ⟨W, hW⟩ : ∃ W, W = w.drewN nq := ⟨_, rfl⟩
  rw [← hW]
  have e0 : W.cell? ⟨bl, 0, none⟩ = some (.string kl) := by rw [hW]; exact c0
  have e1 : W.cell? ⟨bl, 1, none⟩ = some (.slice Al nl cl) := by rw [hW]; exact c1
  have e2 : W.cell? ⟨bl, 2, none⟩ = some (.pointer ll.ad) := by rw [hW]; exact c2
  have e3 : W.cell? ⟨bl, 3, none⟩ = some (.pointer (some ⟨bm, 0, none⟩)) := by rw [hW]; exact c3
  have f0 : W.cell? ⟨bm, 0, none⟩ = some (.string km) := by rw [hW]; exact m0
  have f1 : W.cell? ⟨bm, 1, none⟩ = some (.slice Am nm cm) := by rw [hW]; exact m1
  have f2 : W.cell? ⟨bm, 2, none⟩ = some (.pointer ml.ad) := by rw [hW]; exact m2
  have f3 : W.cell? ⟨bm, 3, none⟩ = some (.pointer mr.ad) := by rw [hW]; exact m3
  have kml : In1 W ml := by rw [hW]; exact hml.drewN _
  have kmr : In1 W mr := by rw [hW]; exact hmr.drewN _
  have kll : In1 W ll := by rw [hW]; exact hll.drewN _
  have kr : In1 W r := by rw [hW]; exact ho.drewN _
  have hb : Below w.heap.size w W := by rw [hW]; exact below_drewN (Below.refl _ _) _
  clear hW c0 c1 c2 c3 c4 c5 m0 m1 m2 m3 m4 m5 ho hml hmr hll
  have HB := hide hb
  clear hb
  go_wp2_with fail
  have g1 : (ll).many + (ml).many ≤ 40000 := by first | omega | (simp only [Tr.many]; omega)
  have g2 : (mr).many + (r).many ≤ 40000 := by first | omega | (simp only [Tr.many]; omega)
  have g3 : (Tr.node W.heap.size kl ⟨Al, nl, cl⟩ ll ml).many + (Tr.node (W.heap.size + 1) k ⟨A, n, c⟩ mr r).many ≤ 40000 := by first | omega | (simp only [Tr.many]; omega)
  go_region_held3 (fun w0 => w0.cell? ⟨bl, 0, none⟩ = some (.string kl) ∧ w0.cell? ⟨bl, 1, none⟩ = some (.slice Al nl cl) ∧ w0.cell? ⟨bl, 2, none⟩ = some (.pointer ll.ad) ∧ w0.cell? ⟨bl, 3, none⟩ = some (.pointer (some ⟨bm, 0, none⟩)) ∧ w0.cell? ⟨bm, 0, none⟩ = some (.string km) ∧ w0.cell? ⟨bm, 1, none⟩ = some (.slice Am nm cm) ∧ w0.cell? ⟨bm, 2, none⟩ = some (.pointer ml.ad) ∧ w0.cell? ⟨bm, 3, none⟩ = some (.pointer mr.ad)) (first | exact ⟨kd e0, kd e1, kd e2, kd e3, kd f0, kd f1, kd f2, kd f3⟩ | exact ⟨kd (ka e0), kd (ka e1), kd (ka e2), kd (ka e3), kd (ka f0), kd (ka f1), kd (ka f2), kd (ka f3)⟩ | exact ⟨kd (ka (ka e0)), kd (ka (ka e1)), kd (ka (ka e2)), kd (ka (ka e3)), kd (ka (ka f0)), kd (ka (ka f1)), kd (ka (ka f2)), kd (ka (ka f3))⟩ | exact ⟨kd (ka (ka (ka e0))), kd (ka (ka (ka e1))), kd (ka (ka (ka e2))), kd (ka (ka (ka e3))), kd (ka (ka (ka f0))), kd (ka (ka (ka f1))), kd (ka (ka (ka f2))), kd (ka (ka (ka f3)))⟩)
    (first | (go_at_call 59; with_reducible refine (with1_open (k := kl) (p := ll.ad) (q := ml.ad) (ll) (ml) _ rfl rfl (kll.drew) (kml.drew) g1).mono ?_; rintro e w' ⟨rfl, rfl⟩) | (go_at_call 59; with_reducible refine (with1_open (k := k) (p := mr.ad) (q := r.ad) (mr) (r) _ rfl rfl ((kmr.alloc _).drew) ((kr.alloc _).drew) g2).mono ?_; rintro e w' ⟨rfl, rfl⟩) | (go_at_call 59; with_reducible refine (with1_open (k := km) (p := (some ⟨W.heap.size, 0, none⟩)) (q := (some ⟨(W.heap.size + 1), 0, none⟩)) (Tr.node W.heap.size kl ⟨Al, nl, cl⟩ ll ml) (Tr.node (W.heap.size + 1) k ⟨A, n, c⟩ mr r) _ Tr.ad_node Tr.ad_node (((In1.new kll kml).alloc _).drew) ((In1.at_ (by simp) (kmr.alloc _) (kr.alloc _)).drew) g3).mono ?_; rintro e w' ⟨rfl, rfl⟩))
  go_wp2_with fail
  go_ret
  exact ⟨Tr.node (W.heap.size + 1 + 1) km ⟨Am, nm, cm⟩ (Tr.node W.heap.size kl ⟨Al, nl, cl⟩ ll ml) (Tr.node (W.heap.size + 1) k ⟨A, n, c⟩ mr r), rfl, (In1.at_ (by simp) ((In1.new kll kml).alloc _) (In1.at_ (by simp) (kmr.alloc _) (kr.alloc _))).drew, by simp [Tr.list], (((((unhide HB).alloc (unhide HB).size _).alloc (by have := (unhide HB).size; simp; omega) _).alloc (by have := (unhide HB).size; simp; omega) _).drew)⟩

set_option maxHeartbeats 2000000 in
set_option maxRecDepth 100000 in
theorem even1_right (k : ByteArray) (A : Option Addr) (n c : Nat) (kr : ByteArray) (Ar : Option Addr) (nr cr : Nat) (br : Nat) (rl rr l : Tr ByteArray Sl) (w : World) (hh : In1 w (Tr.node br kr ⟨Ar, nr, cr⟩ rl rr)) (ho : In1 w l) (hm : rl.many + rr.many + l.many ≤ 30000)
    (h1 : l.high + 1 < (Tr.node br kr ⟨Ar, nr, cr⟩ rl rr).high) (h2 : rl.high ≤ rr.high) :
    Calls Tryz.prog 60 #[.string k, .slice A n c, .pointer l.ad, .pointer (some ⟨br, 0, none⟩)] w (Made1 w (l.list ++ (k, ⟨A, n, c⟩) :: (Tr.node br kr ⟨Ar, nr, cr⟩ rl rr).list)) := by
  have q0 := rl.high_le
  have q1 := rr.high_le
  have q2 := l.high_le
  obtain ⟨c0, c1, c2, c3, c4, c5⟩ := hh.cells
  obtain ⟨_, hrl, hrr⟩ := hh
  have d7 := Tr.high_le (Tr.node br kr ⟨Ar, nr, cr⟩ rl rr)
  simp only [Tr.many] at d7
  obtain ⟨hs, hhs⟩ : ∃ hs : Nat, hs = (Tr.node br kr ⟨Ar, nr, cr⟩ rl rr).high := ⟨_, rfl⟩
  rw [← hhs] at h1 d7 c4
  clear hhs
  have d0 : (l.high : Int) + 1 < (hs : Int) := by omega
  have d8 : (hs : Int) ≤ 60000 := by omega
  clear d7
  have d3 : (rl.high : Int) ≤ (rr.high : Int) := by omega
  have HFar := hide fun m : Nat => high1_tr rl (w.drewN m) (hrl.drewN _)
  have HT := hide fun (w0 : World) h0 => high1_node br (hs : Int) w0 h0
  have HO := hide (high1_tr l w ho)
  have HNear := hide fun m : Nat => high1_tr rr (w.drewN m) (hrr.drewN _)
  clear h1 h2
  go_enter Tryz.func60, Tryz.ntmps60
  go_wp2_with (go_at_call 78; first | (with_reducible refine (unhide HO).mono ?_; rintro e w' ⟨rfl, rfl⟩) | (with_reducible refine (unhide HT _ (by assumption)).mono ?_; rintro e w' ⟨rfl, rfl⟩))
  go_quiet ((go_at_call 78; (first | (with_reducible exact still_first (unhide HNear _)) | (with_reducible exact still_first (unhide HFar _)))))
  go_wp2_with fail
  obtain ⟨W, hW⟩ : ∃ W, W = w.drewN nq := ⟨_, rfl⟩
  rw [← hW]
  have e0 : W.cell? ⟨br, 0, none⟩ = some (.string kr) := by rw [hW]; exact c0
  have e1 : W.cell? ⟨br, 1, none⟩ = some (.slice Ar nr cr) := by rw [hW]; exact c1
  have e2 : W.cell? ⟨br, 2, none⟩ = some (.pointer rl.ad) := by rw [hW]; exact c2
  have e3 : W.cell? ⟨br, 3, none⟩ = some (.pointer rr.ad) := by rw [hW]; exact c3
  have krl : In1 W rl := by rw [hW]; exact hrl.drewN _
  have krr : In1 W rr := by rw [hW]; exact hrr.drewN _
  have kl : In1 W l := by rw [hW]; exact ho.drewN _
  have hb : Below w.heap.size w W := by rw [hW]; exact below_drewN (Below.refl _ _) _
  clear hW c0 c1 c2 c3 c4 c5 ho hrl hrr
  have HB := hide hb
  clear hb
  have g1 : (l).many + (rl).many ≤ 40000 := by first | omega | (simp only [Tr.many]; omega)
  have g2 : (Tr.node W.heap.size k ⟨A, n, c⟩ l rl).many + (rr).many ≤ 40000 := by first | omega | (simp only [Tr.many]; omega)
  go_region_held3 (fun w0 => w0.cell? ⟨br, 0, none⟩ = some (.string kr) ∧ w0.cell? ⟨br, 1, none⟩ = some (.slice Ar nr cr) ∧ w0.cell? ⟨br, 2, none⟩ = some (.pointer rl.ad) ∧ w0.cell? ⟨br, 3, none⟩ = some (.pointer rr.ad)) (first | exact ⟨kd e0, kd e1, kd e2, kd e3⟩ | exact ⟨kd (ka e0), kd (ka e1), kd (ka e2), kd (ka e3)⟩ | exact ⟨kd (ka (ka e0)), kd (ka (ka e1)), kd (ka (ka e2)), kd (ka (ka e3))⟩)
    (first | (go_at_call 59; with_reducible refine (with1_open (k := k) (p := l.ad) (q := rl.ad) (l) (rl) _ rfl rfl (kl.drew) (krl.drew) g1).mono ?_; rintro e w' ⟨rfl, rfl⟩) | (go_at_call 59; with_reducible refine (with1_open (k := kr) (p := (some ⟨W.heap.size, 0, none⟩)) (q := rr.ad) (Tr.node W.heap.size k ⟨A, n, c⟩ l rl) (rr) _ Tr.ad_node rfl ((In1.new kl krl).drew) ((krr.alloc _).drew) g2).mono ?_; rintro e w' ⟨rfl, rfl⟩))
  go_wp2_with fail
  go_ret
  exact ⟨Tr.node (W.heap.size + 1) kr ⟨Ar, nr, cr⟩ (Tr.node W.heap.size k ⟨A, n, c⟩ l rl) rr, rfl, (In1.at_ (by simp) (In1.new kl krl) (krr.alloc _)).drew, by simp [Tr.list], ((((unhide HB).alloc (unhide HB).size _).alloc (by have := (unhide HB).size; simp; omega) _).drew)⟩

set_option maxHeartbeats 2000000 in
set_option maxRecDepth 100000 in
theorem even1_right2 (k : ByteArray) (A : Option Addr) (n c : Nat) (kr : ByteArray) (Ar : Option Addr) (nr cr : Nat) (km : ByteArray) (Am : Option Addr) (nm cm : Nat) (br bm : Nat) (ml mr rr l : Tr ByteArray Sl) (w : World) (hh : In1 w (Tr.node br kr ⟨Ar, nr, cr⟩ (Tr.node bm km ⟨Am, nm, cm⟩ ml mr) rr)) (ho : In1 w l) (hm : ml.many + mr.many + rr.many + l.many ≤ 30000)
    (h1 : l.high + 1 < (Tr.node br kr ⟨Ar, nr, cr⟩ (Tr.node bm km ⟨Am, nm, cm⟩ ml mr) rr).high) (h2 : rr.high < ((Tr.node bm km ⟨Am, nm, cm⟩ ml mr)).high) :
    Calls Tryz.prog 60 #[.string k, .slice A n c, .pointer l.ad, .pointer (some ⟨br, 0, none⟩)] w (Made1 w (l.list ++ (k, ⟨A, n, c⟩) :: (Tr.node br kr ⟨Ar, nr, cr⟩ (Tr.node bm km ⟨Am, nm, cm⟩ ml mr) rr).list)) := by
  have q0 := ml.high_le
  have q1 := mr.high_le
  have q2 := rr.high_le
  have q3 := l.high_le
  obtain ⟨c0, c1, c2, c3, c4, c5⟩ := hh.cells
  obtain ⟨_, hrl, hrr⟩ := hh
  obtain ⟨m0, m1, m2, m3, m4, m5⟩ := In1.cells hrl
  obtain ⟨_, hml, hmr⟩ := id hrl
  have d7 := Tr.high_le (Tr.node br kr ⟨Ar, nr, cr⟩ (Tr.node bm km ⟨Am, nm, cm⟩ ml mr) rr)
  simp only [Tr.many] at d7
  obtain ⟨hs, hhs⟩ : ∃ hs : Nat, hs = (Tr.node br kr ⟨Ar, nr, cr⟩ (Tr.node bm km ⟨Am, nm, cm⟩ ml mr) rr).high := ⟨_, rfl⟩
  rw [← hhs] at h1 d7 c4
  clear hhs
  have d0 : (l.high : Int) + 1 < (hs : Int) := by omega
  have d8 : (hs : Int) ≤ 60000 := by omega
  clear d7
  obtain ⟨hf, hhf⟩ : ∃ hf : Nat, hf = ((Tr.node bm km ⟨Am, nm, cm⟩ ml mr)).high := ⟨_, rfl⟩
  rw [← hhf] at h2 m4
  clear hhf
  have d3 : ¬ ((hf : Int) ≤ (rr.high : Int)) := by omega
  have HFar := hide fun m : Nat => high1_node bm (hf : Int) (w.drewN m) m4
  replace c2 : w.cell? ⟨br, 2, none⟩ = some (.pointer (some ⟨bm, 0, none⟩)) := c2
  have HT := hide fun (w0 : World) h0 => high1_node br (hs : Int) w0 h0
  have HO := hide (high1_tr l w ho)
  have HNear := hide fun m : Nat => high1_tr rr (w.drewN m) (hrr.drewN _)
  clear hrl
  clear h1 h2
  go_enter Tryz.func60, Tryz.ntmps60
  go_wp2_with (go_at_call 78; first | (with_reducible refine (unhide HO).mono ?_; rintro e w' ⟨rfl, rfl⟩) | (with_reducible refine (unhide HT _ (by assumption)).mono ?_; rintro e w' ⟨rfl, rfl⟩))
  go_quiet ((go_at_call 78; (first | (with_reducible exact still_first (unhide HNear _)) | (with_reducible exact still_first (unhide HFar _)))))
  go_wp2_with fail
  obtain ⟨W, hW⟩ : ∃ W, W = w.drewN nq := ⟨_, rfl⟩
  rw [← hW]
  have e0 : W.cell? ⟨br, 0, none⟩ = some (.string kr) := by rw [hW]; exact c0
  have e1 : W.cell? ⟨br, 1, none⟩ = some (.slice Ar nr cr) := by rw [hW]; exact c1
  have e2 : W.cell? ⟨br, 2, none⟩ = some (.pointer (some ⟨bm, 0, none⟩)) := by rw [hW]; exact c2
  have e3 : W.cell? ⟨br, 3, none⟩ = some (.pointer rr.ad) := by rw [hW]; exact c3
  have f0 : W.cell? ⟨bm, 0, none⟩ = some (.string km) := by rw [hW]; exact m0
  have f1 : W.cell? ⟨bm, 1, none⟩ = some (.slice Am nm cm) := by rw [hW]; exact m1
  have f2 : W.cell? ⟨bm, 2, none⟩ = some (.pointer ml.ad) := by rw [hW]; exact m2
  have f3 : W.cell? ⟨bm, 3, none⟩ = some (.pointer mr.ad) := by rw [hW]; exact m3
  have kml : In1 W ml := by rw [hW]; exact hml.drewN _
  have kmr : In1 W mr := by rw [hW]; exact hmr.drewN _
  have krr : In1 W rr := by rw [hW]; exact hrr.drewN _
  have kl : In1 W l := by rw [hW]; exact ho.drewN _
  have hb : Below w.heap.size w W := by rw [hW]; exact below_drewN (Below.refl _ _) _
  clear hW c0 c1 c2 c3 c4 c5 m0 m1 m2 m3 m4 m5 ho hml hmr hrr
  have HB := hide hb
  clear hb
  go_wp2_with fail
  have g1 : (l).many + (ml).many ≤ 40000 := by first | omega | (simp only [Tr.many]; omega)
  have g2 : (mr).many + (rr).many ≤ 40000 := by first | omega | (simp only [Tr.many]; omega)
  have g3 : (Tr.node W.heap.size k ⟨A, n, c⟩ l ml).many + (Tr.node (W.heap.size + 1) kr ⟨Ar, nr, cr⟩ mr rr).many ≤ 40000 := by first | omega | (simp only [Tr.many]; omega)
  go_region_held3 (fun w0 => w0.cell? ⟨br, 0, none⟩ = some (.string kr) ∧ w0.cell? ⟨br, 1, none⟩ = some (.slice Ar nr cr) ∧ w0.cell? ⟨br, 2, none⟩ = some (.pointer (some ⟨bm, 0, none⟩)) ∧ w0.cell? ⟨br, 3, none⟩ = some (.pointer rr.ad) ∧ w0.cell? ⟨bm, 0, none⟩ = some (.string km) ∧ w0.cell? ⟨bm, 1, none⟩ = some (.slice Am nm cm) ∧ w0.cell? ⟨bm, 2, none⟩ = some (.pointer ml.ad) ∧ w0.cell? ⟨bm, 3, none⟩ = some (.pointer mr.ad)) (first | exact ⟨kd e0, kd e1, kd e2, kd e3, kd f0, kd f1, kd f2, kd f3⟩ | exact ⟨kd (ka e0), kd (ka e1), kd (ka e2), kd (ka e3), kd (ka f0), kd (ka f1), kd (ka f2), kd (ka f3)⟩ | exact ⟨kd (ka (ka e0)), kd (ka (ka e1)), kd (ka (ka e2)), kd (ka (ka e3)), kd (ka (ka f0)), kd (ka (ka f1)), kd (ka (ka f2)), kd (ka (ka f3))⟩ | exact ⟨kd (ka (ka (ka e0))), kd (ka (ka (ka e1))), kd (ka (ka (ka e2))), kd (ka (ka (ka e3))), kd (ka (ka (ka f0))), kd (ka (ka (ka f1))), kd (ka (ka (ka f2))), kd (ka (ka (ka f3)))⟩)
    (first | (go_at_call 59; with_reducible refine (with1_open (k := k) (p := l.ad) (q := ml.ad) (l) (ml) _ rfl rfl (kl.drew) (kml.drew) g1).mono ?_; rintro e w' ⟨rfl, rfl⟩) | (go_at_call 59; with_reducible refine (with1_open (k := kr) (p := mr.ad) (q := rr.ad) (mr) (rr) _ rfl rfl ((kmr.alloc _).drew) ((krr.alloc _).drew) g2).mono ?_; rintro e w' ⟨rfl, rfl⟩) | (go_at_call 59; with_reducible refine (with1_open (k := km) (p := (some ⟨W.heap.size, 0, none⟩)) (q := (some ⟨(W.heap.size + 1), 0, none⟩)) (Tr.node W.heap.size k ⟨A, n, c⟩ l ml) (Tr.node (W.heap.size + 1) kr ⟨Ar, nr, cr⟩ mr rr) _ Tr.ad_node Tr.ad_node (((In1.new kl kml).alloc _).drew) ((In1.at_ (by simp) (kmr.alloc _) (krr.alloc _)).drew) g3).mono ?_; rintro e w' ⟨rfl, rfl⟩))
  go_wp2_with fail
  go_ret
  exact ⟨Tr.node (W.heap.size + 1 + 1) km ⟨Am, nm, cm⟩ (Tr.node W.heap.size k ⟨A, n, c⟩ l ml) (Tr.node (W.heap.size + 1) kr ⟨Ar, nr, cr⟩ mr rr), rfl, (In1.at_ (by simp) ((In1.new kl kml).alloc _) (In1.at_ (by simp) (kmr.alloc _) (krr.alloc _))).drew, by simp [Tr.list], (((((unhide HB).alloc (unhide HB).size _).alloc (by have := (unhide HB).size; simp; omega) _).alloc (by have := (unhide HB).size; simp; omega) _).drew)⟩

/-- even's contract. -/
theorem even1_any (k : ByteArray) (A : Option Addr) (n c : Nat) (l r : Tr ByteArray Sl) (w : World) (hl : In1 w l) (hr : In1 w r) (hm : l.many + r.many ≤ 20000) :
    Calls Tryz.prog 60 #[.string k, .slice A n c, .pointer l.ad, .pointer r.ad] w (Made1 w (l.list ++ (k, ⟨A, n, c⟩) :: r.list)) := by
  by_cases h1 : r.high + 1 < l.high
  · obtain ⟨bl, kl, vl, ll, lr, rfl⟩ := Tr.high_pos (t := l) (by omega)
    simp only [Tr.many] at hm
    by_cases h2 : lr.high ≤ ll.high
    · exact even1_left k A n c kl vl.a vl.n vl.c bl ll lr r w hl hr (by omega) h1 h2
    · obtain ⟨bm, km, vm, ml, mr, rfl⟩ := Tr.high_pos (t := lr) (by omega)
      simp only [Tr.many] at hm
      exact even1_left2 k A n c kl vl.a vl.n vl.c km vm.a vm.n vm.c bl bm ml mr ll r w hl hr (by omega) h1 (Nat.lt_of_not_le h2)
  · by_cases h3 : l.high + 1 < r.high
    · obtain ⟨br, kr, vr, rl, rr, rfl⟩ := Tr.high_pos (t := r) (by omega)
      simp only [Tr.many] at hm
      by_cases h2 : rl.high ≤ rr.high
      · exact even1_right k A n c kr vr.a vr.n vr.c br rl rr l w hr hl (by omega) h3 h2
      · obtain ⟨bm, km, vm, ml, mr, rfl⟩ := Tr.high_pos (t := rl) (by omega)
        simp only [Tr.many] at hm
        exact even1_right2 k A n c kr vr.a vr.n vr.c km vm.a vm.n vm.c br bm ml mr rr l w hr hl (by omega) h3 (Nat.lt_of_not_le h2)
    · exact even1_mid k A n c l r w hl hr (by omega) (by omega) (by omega)

end Go.Proofs.YtciahchpdmajbaaGreatDoor
