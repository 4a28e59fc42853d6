/- Same: are two rows of panes the same? -/
import Derived.Test.YtciahchpdmajbaaGreatDoorOf
namespace Go.Proofs.YtciahchpdmajbaaGreatDoor
open Go.RowKit
attribute [local go_sem ↓] Go.wp_at_zero Go.wp_at_succ

/-- Two panes as values: the test. -/
theorem pn_ext {p q : Pn} (h0 : p.key.toList = q.key.toList) (h1 : p.s = q.s) (h2 : p.e = q.e) (h3 : p.kind = q.kind) (h4 : p.nth = q.nth) (h5 : p.count = q.count) (h6 : p.sum = q.sum) (h7 : p.min = q.min) (h8 : p.max = q.max) : p = q := by
  have h := toList_inj h0
  cases p; cases q
  simp only at h h1 h2 h3 h4 h5 h6 h7 h8
  subst h h1 h2 h3 h4 h5 h6 h7 h8
  rfl
set_option maxRecDepth 100000 in
theorem pn_neq (p q : Pn) : ∀ w : World, (binOp .neq 40 p.val q.val).run Tryz.prog w = .ok (.bool (!decide (p = q))) w := fun w => by
  go_simp
  by_cases h : p = q
  · subst h; simp
  · repeat' split
    all_goals first | (exact absurd (pn_ext ‹_› ‹_› ‹_› ‹_› ‹_› ‹_› ‹_› ‹_› ‹_›) h) | simp [h]

def SameDone (b : Bool) (w : World) (e : Ending) (w' : World) : Prop := e = .returned (.bool b) ∧ ∃ m, w' = w.drewN m

set_option maxHeartbeats 2000000 in
set_option maxRecDepth 100000 in
theorem same_any (A B : Option Addr) (n m c d : Nat) (ps qs : List Pn) (w : World) (hn : ps.length = n) (hm : qs.length = m) (hR : Rd w A ps) (hS : Rd w B qs) (hl1 : n ≤ 100000) (hl2 : m ≤ 100000) :
    Calls Tryz.prog 13 #[.slice A n c, .slice B m d] w (SameDone (decide (ps = qs)) w) := by
  have HR := hide hR
  have HS := hide hS
  have HN := hide hn
  have HM := hide hm
  clear hR hn hS hm
  by_cases hnm : n = m
  · subst hnm
    have t0 : ((n : Int) != (n : Int)) = false := by simp
    go_enter Tryz.func13, Tryz.ntmps13
    go_wp2
    go_loopw [5] (fun i wr => ∃ k j : Nat, k ≤ n ∧ i = .int .i64 k ∧ wr = w.drewN j ∧ Hid (ps.take k = qs.take k)) (fun i _ => n - (intOf i).toNat)
    case atStart => exact ⟨0, 0, Nat.zero_le _, rfl, rfl, by show _ = _; simp⟩
    case round =>
      obtain ⟨k, j, hk, rfl, hwr, hL⟩ := hrel
      have b0 : (0 : Int) ≤ (k : Int) := by omega
      by_cases hlt : k < n
      · obtain ⟨b, o, hA, e0, e1, e2, e3, e4, e5, e6, e7, e8⟩ := HR.out.at_ (i := k) (by rw [HN.out]; exact hlt)
        obtain ⟨b', o', hB, f0, f1, f2, f3, f4, f5, f6, f7, f8⟩ := HS.out.at_ (i := k) (by rw [HM.out]; exact hlt)
        obtain rfl := hA
        obtain rfl := hB
        obtain ⟨p, hp⟩ : ∃ p, p = ps[k]'(by rw [HN.out]; exact hlt) := ⟨_, rfl⟩
        obtain ⟨q, hq⟩ : ∃ q, q = qs[k]'(by rw [HM.out]; exact hlt) := ⟨_, rfl⟩
        rw [← hp] at e0 e1 e2 e3 e4 e5 e6 e7 e8
        rw [← hq] at f0 f1 f2 f3 f4 f5 f6 f7 f8
        have HP := hide hp
        have HQ := hide hq
        have HW := hide hwr
        clear hp hq hwr
        have e0 : wr.cell? ⟨b, o + k * 9, none⟩ = some (.string p.key) := by rw [HW.out]; exact e0
        have e1 : wr.cell? ⟨b, o + k * 9 + 1, none⟩ = some (.int .i64 p.s) := by rw [HW.out]; exact e1
        have e2 : wr.cell? ⟨b, o + k * 9 + 2, none⟩ = some (.int .i64 p.e) := by rw [HW.out]; exact e2
        have e3 : wr.cell? ⟨b, o + k * 9 + 3, none⟩ = some (.int .i64 p.kind) := by rw [HW.out]; exact e3
        have e4 : wr.cell? ⟨b, o + k * 9 + 4, none⟩ = some (.int .i64 p.nth) := by rw [HW.out]; exact e4
        have e5 : wr.cell? ⟨b, o + k * 9 + 5, none⟩ = some (.int .i64 p.count) := by rw [HW.out]; exact e5
        have e6 : wr.cell? ⟨b, o + k * 9 + 6, none⟩ = some (.int .i64 p.sum) := by rw [HW.out]; exact e6
        have e7 : wr.cell? ⟨b, o + k * 9 + 7, none⟩ = some (.int .i64 p.min) := by rw [HW.out]; exact e7
        have e8 : wr.cell? ⟨b, o + k * 9 + 8, none⟩ = some (.int .i64 p.max) := by rw [HW.out]; exact e8
        have f0 : wr.cell? ⟨b', o' + k * 9, none⟩ = some (.string q.key) := by rw [HW.out]; exact f0
        have f1 : wr.cell? ⟨b', o' + k * 9 + 1, none⟩ = some (.int .i64 q.s) := by rw [HW.out]; exact f1
        have f2 : wr.cell? ⟨b', o' + k * 9 + 2, none⟩ = some (.int .i64 q.e) := by rw [HW.out]; exact f2
        have f3 : wr.cell? ⟨b', o' + k * 9 + 3, none⟩ = some (.int .i64 q.kind) := by rw [HW.out]; exact f3
        have f4 : wr.cell? ⟨b', o' + k * 9 + 4, none⟩ = some (.int .i64 q.nth) := by rw [HW.out]; exact f4
        have f5 : wr.cell? ⟨b', o' + k * 9 + 5, none⟩ = some (.int .i64 q.count) := by rw [HW.out]; exact f5
        have f6 : wr.cell? ⟨b', o' + k * 9 + 6, none⟩ = some (.int .i64 q.sum) := by rw [HW.out]; exact f6
        have f7 : wr.cell? ⟨b', o' + k * 9 + 7, none⟩ = some (.int .i64 q.min) := by rw [HW.out]; exact f7
        have f8 : wr.cell? ⟨b', o' + k * 9 + 8, none⟩ = some (.int .i64 q.max) := by rw [HW.out]; exact f8
        have b1 : (k : Int) < (n : Int) := by omega
        by_cases hpq : p = q
        · have hne : ∀ w : World, (binOp .neq 40 p.val q.val).run Tryz.prog w = .ok (.bool false) w := fun w => by rw [pn_neq]; simp [hpq]
          have HPQ := hide hpq
          clear hpq
          go_wp2_with fail
          go_quiet (fail)
          go_wp2_with fail
          go_roundw
          case rel =>
            refine ⟨k + 1, j + nq, by omega, by go_num, by rw [HW.out, World.drewN_drewN], ?_⟩
            show _ = _
            rw [take_snoc ps k (by rw [HN.out]; exact hlt), take_snoc qs k (by rw [HM.out]; exact hlt), hL.out, ← HP.out, ← HQ.out, HPQ.out]
          case measure => simp [intOf]; omega
        · have hne : ∀ w : World, (binOp .neq 40 p.val q.val).run Tryz.prog w = .ok (.bool true) w := fun w => by rw [pn_neq]; simp [hpq]
          have HF : Hid (decide (ps = qs) = false) := by
            show _ = _
            rw [decide_eq_false_iff_not]
            rintro rfl
            exact hpq (by rw [HP.out, HQ.out])
          clear hpq
          go_wp2_with fail
          go_quiet (fail)
          go_wp2_with fail
          go_ret
          exact ⟨by rw [HF.out]; rfl, j + nq, by rw [HW.out, World.drewN_drewN]⟩
      · have HT : Hid (decide (ps = qs) = true) := by
          show _ = _
          rw [decide_eq_true_iff]
          have h := hL.out
          rwa [List.take_of_length_le (by rw [HN.out]; omega), List.take_of_length_le (by rw [HM.out]; omega)] at h
        have HW := hide hwr
        clear hwr
        go_wp2_with fail
        go_ret
        exact ⟨by rw [HT.out]; rfl, j, HW.out⟩
  · have t0 : ((n : Int) != (m : Int)) = true := by simp; omega
    have HF : Hid (decide (ps = qs) = false) := by
      show _ = _
      rw [decide_eq_false_iff_not]
      rintro rfl
      exact hnm (HN.out.symm.trans HM.out)
    go_enter Tryz.func13, Tryz.ntmps13
    go_wp2
    go_ret
    exact ⟨by rw [HF.out]; rfl, 0, rfl⟩
end Go.Proofs.YtciahchpdmajbaaGreatDoor
