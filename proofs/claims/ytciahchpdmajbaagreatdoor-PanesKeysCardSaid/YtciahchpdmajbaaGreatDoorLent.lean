/- The law's panes in memory of their own, with a mark behind; are they as they were; written over and grown. -/
import Derived.Test.YtciahchpdmajbaaGreatDoorSame
namespace Go.Proofs.YtciahchpdmajbaaGreatDoor
open Go.RowKit
attribute [local go_sem ↓] Go.wp_at_zero Go.wp_at_succ

set_option maxHeartbeats 2000000 in
set_option maxRecDepth 100000 in
theorem rof_any (A : Option Addr) (n c : Nat) (ps : List Pn) (key : ByteArray) (w : World) (hn : ps.length = n) (hR : Rd w A ps) (hlen : n ≤ 10000) :
    Calls Tryz.prog 14 #[.slice A n c, .string key] w (OfDone (ps.filter fun p => p.key.toList == key.toList) w) := by
  obtain ⟨i0, hi, hz0, hz1, hz2⟩ := info_parts info_Pane
  have HR := hide hR
  have HN := hide hn
  clear hR hn
  go_enter Tryz.func14, Tryz.ntmps14
  go_wp2
  go_loopw [5, 6] (fun v i wr => ∃ k : Nat, k ≤ n ∧ i = .int .i64 k ∧ Below w.heap.size w wr ∧ ∃ qs : List Pn, Hid (qs = (ps.take k).filter fun p => p.key.toList == key.toList) ∧ qs.length ≤ k ∧ wr.ownsRow w.heap.size 40 9 v qs.length (cellsOf qs)) (fun _ i _ => n - (intOf i).toNat)
  case atStart => exact ⟨0, Nat.zero_le _, rfl, Below.refl _ _, [], rfl, Nat.le_refl _, World.ownsRow_nil _ _ _ _⟩
  case round =>
    obtain ⟨k, hk, rfl, hb, qs, hqs, hql, hown⟩ := hrel
    by_cases hlt : k < n
    · obtain ⟨b, o, hA, e0, e1, e2, e3, e4, e5, e6, e7, e8⟩ := (HR.out.keep hb).at_ (i := k) (by rw [HN.out]; exact hlt)
      obtain rfl := hA
      obtain ⟨p, hp⟩ : ∃ p, p = ps[k]'(by rw [HN.out]; exact hlt) := ⟨_, rfl⟩
      rw [← hp] at e0 e1 e2 e3 e4 e5 e6 e7 e8
      have HP := hide hp
      clear hp
      obtain ⟨A', c', rfl⟩ := own_shape hown
      by_cases hkey : (p.key.toList == key.toList) = true
      · have ha := hown.alloc (.cells p.cells.toArray 40)
        go_wp2_with (at_builtin; refine wpList_append_own _ rfl _ _ 22 rfl w.heap.size 40 i0 zeroPane 9 80 Tryz.underlying22 hi hz0 hz1 hz2 rfl (by decide) _ _ _ rfl ha ⟨wr.heap.size, 0, none⟩ 1 1 p.cells rfl rfl (pn_news (by simp) p) (pn_one p) (by unfold maxLen; omega) (by omega) (by have := hb.size; simp; omega) ?_; intro v' w1 hown' hgrow _)
        go_roundw
        case rel =>
          refine ⟨k + 1, by omega, by go_num, ?_, qs ++ [p], ?_, by simp; omega, ?_⟩
          · exact (hb.alloc hb.size _).grown hgrow (by have := hb.size; simp; omega) (fun r hr => (own_block ha hr).1)
          · show _ = _
            rw [take_snoc ps k (by rw [HN.out]; exact hlt), List.filter_append, ← hqs.out, ← HP.out]
            simp [hkey]
          · rw [cellsOf_append, cellsOf_one, List.length_append]
            exact hown'
        case measure => simp [intOf]; omega
      · have hkey' : (p.key.toList == key.toList) = false := by simpa using hkey
        clear hkey
        go_wp2_with fail
        go_roundw
        case rel =>
          refine ⟨k + 1, by omega, by go_num, hb, qs, ?_, by omega, hown⟩
          show _ = _
          rw [take_snoc ps k (by rw [HN.out]; exact hlt), List.filter_append, ← hqs.out, ← HP.out]
          simp [hkey']
        case measure => simp [intOf]; omega
    · have HQ : Hid (qs = ps.filter fun p => p.key.toList == key.toList) := by
        show _ = _
        rw [hqs.out, List.take_of_length_le (by rw [HN.out]; omega)]
      have HO := hide hown
      go_wp2_with fail
      go_ret
      exact ⟨_, rfl, by rw [← HQ.out]; exact HO.out, hb⟩

end Go.Proofs.YtciahchpdmajbaaGreatDoor

namespace Go.Proofs.YtciahchpdmajbaaGreatDoor
open Go.RowKit
attribute [local go_sem ↓] Go.wp_at_zero Go.wp_at_succ

/-- The mark. -/
abbrev mark : Pn := ⟨ByteArray.empty, 0, 0, 0, 4242, 0, 0, 0, 0⟩
def LentDone (ps : List Pn) (w : World) (e : Ending) (w' : World) : Prop := ∃ g cap, e = .returned (.slice (some ⟨g, 0, none⟩) ps.length cap) ∧
  w'.ownsRow w.heap.size 40 9 (.slice (some ⟨g, 0, none⟩) (ps.length + 1) cap) (ps.length + 1) (cellsOf ps ++ mark.cells) ∧ Below w.heap.size w w'

theorem Rd.cells {w : World} {b o : Nat} {ps : List Pn} (h : Rd w (some ⟨b, o, none⟩) ps) : ∀ j u, (cellsOf ps)[j]? = some u → w.cell? ((⟨b, o, none⟩ : Addr).add j) = some u := by
  intro j u hu
  have hj : j < ps.length * 9 := by
    have h1 := (List.getElem?_eq_some_iff.1 hu).1
    rwa [cellsOf_length] at h1
  have hi : j / 9 < ps.length := by omega
  have e : j / 9 * 9 + j % 9 = j := by omega
  rw [← e, cellsOf_at ps _ _ hi (by omega)] at hu
  obtain ⟨b', o', hA, hc⟩ := h (j / 9) hi
  injection hA with hA
  injection hA with h1 h2
  subst h1 h2
  have h3 := hc _ _ hu
  rw [show o + j / 9 * 9 + j % 9 = o + j by omega] at h3
  have e2 : (⟨b, o, none⟩ : Addr).add j = ⟨b, o + j, none⟩ := by unfold Addr.add; split <;> simp_all
  rw [e2]
  exact h3
theorem Rd.news {w : World} {a : Addr} {ps : List Pn} (h : Rd w (some a) ps) : ∀ j u, (cellsOf ps)[j]? = some u → w.cell? (a.add j) = some u := by
  intro j u hu
  cases ps with
  | nil => simp [cellsOf] at hu
  | cons p ps =>
    obtain ⟨b, o, hA, _⟩ := h 0 (by simp)
    injection hA with hA
    subst hA
    exact h.cells j u hu
theorem Rd.none_nil {w : World} {ps : List Pn} (h : Rd w none ps) : ps = [] := by
  cases ps with
  | nil => rfl
  | cons p ps =>
    obtain ⟨b, o, hA, _⟩ := h 0 (by simp)
    cases hA

set_option maxHeartbeats 2000000 in
set_option maxRecDepth 100000 in
theorem lent_any (A : Option Addr) (n c : Nat) (ps : List Pn) (w : World) (hn : ps.length = n) (hR : Rd w A ps) (hlen : n ≤ 10000) :
    Calls Tryz.prog 5 #[.slice A n c] w (LentDone ps w) := by
  obtain ⟨i0, hi, hz0, hz1, hz2⟩ := info_parts info_Pane
  rcases A with _ | a
  · obtain rfl := hR.none_nil
    obtain rfl : n = 0 := hn.symm
    clear hR hn
    have h0 : (w.alloc (.cells mark.cells.toArray 40)).ownsRow w.heap.size 40 9 (.slice none 0 0) 0 [] := World.ownsRow_nil _ _ _ _
    go_enter Tryz.func5, Tryz.ntmps5
    go_wp2_with (at_builtin; refine wpList_append_own _ rfl _ _ 22 rfl w.heap.size 40 i0 zeroPane 9 80 Tryz.underlying22 hi hz0 hz1 hz2 rfl (by decide) _ _ _ rfl h0 ⟨w.heap.size, 0, none⟩ 1 1 mark.cells rfl rfl (pn_news (by simp) mark) (pn_one mark) (by unfold maxLen; omega) (by omega) (by simp) ?_; intro v2 w2 h2 hg2 _; rw [Nat.zero_add, List.nil_append] at h2; replace hg2 : (w.alloc (.cells mark.cells.toArray 40)).grownBy w2 none := hg2; obtain ⟨g2, cap2, rfl, hB2, hlt2⟩ := h2.form (Nat.succ_pos _); have hcap := own_cap h2)
    go_ret
    exact ⟨g2, cap2, rfl, h2, ((Below.refl _ w).alloc (Nat.le_refl _) _).grown hg2 (by simp) (fun r hr => by cases hr)⟩
  · have HR := hide hR
    have HN := hide hn
    clear hR hn
    have h0 : w.ownsRow w.heap.size 40 9 (.slice none 0 0) 0 [] := World.ownsRow_nil _ _ _ _
    go_enter Tryz.func5, Tryz.ntmps5
    go_wp2_with (at_builtin; first
      | (refine wpList_append_own _ rfl _ _ 22 rfl w.heap.size 40 i0 zeroPane 9 80 Tryz.underlying22 hi hz0 hz1 hz2 rfl (by decide) _ _ _ rfl (h1.alloc (.cells mark.cells.toArray 40)) ⟨w1.heap.size, 0, none⟩ 1 1 mark.cells rfl rfl (pn_news (by simp) mark) (pn_one mark) (by unfold maxLen; omega) (by omega) (by have := hg1.size; simp; omega) ?_; intro v2 w2 h2 hg2 _; replace hg2 : (w1.alloc (.cells mark.cells.toArray 40)).grownBy w2 (Value.slice A1 n c1).ownBlock := hg2; obtain ⟨g2, cap2, rfl, hB2, hlt2⟩ := h2.form (Nat.succ_pos _); have hcap := own_cap h2)
      | (refine wpList_append_own _ rfl _ _ 22 rfl w.heap.size 40 i0 zeroPane 9 80 Tryz.underlying22 hi hz0 hz1 hz2 rfl (by decide) _ _ _ rfl h0 a n c (cellsOf ps) rfl (by rw [cellsOf_length, HN.out]) HR.out.news (cellsOf_one' ps) (by unfold maxLen; omega) (by omega) (by simp) ?_; intro v1 w1 h1 hg1 _; rw [Nat.zero_add, List.nil_append] at h1; replace hg1 : w.grownBy w1 none := hg1; obtain ⟨A1, c1, rfl⟩ := own_shape h1))
    go_ret
    obtain rfl := HN.out
    exact ⟨g2, cap2, rfl, h2, (((Below.refl _ w).grown hg1 (Nat.le_refl _) (fun r hr => by cases hr)).alloc hg1.size _).grown hg2 (by have := hg1.size; simp; omega) (fun r hr => (own_block h1 hr).1)⟩

theorem Rd.of_own {w : World} {B g m cap : Nat} {ps : List Pn} {ys : List Value} (h : w.ownsRow B 40 9 (.slice (some ⟨g, 0, none⟩) m cap) m (cellsOf ps ++ ys)) (hm : ps.length ≤ m) : Rd w (some ⟨g, 0, none⟩) ps := by
  intro i hi
  refine ⟨g, 0, rfl, fun j u hu => ?_⟩
  have hj : j < 9 := by have := (List.getElem?_eq_some_iff.1 hu).1; simpa using this
  rw [Nat.zero_add, h.cellAt _ (by omega), List.getElem?_append_left (by rw [cellsOf_length]; omega), cellsOf_at ps i j hi hj]
  exact hu
theorem lent_mark {w : World} {B g cap : Nat} {ps : List Pn} (h : w.ownsRow B 40 9 (.slice (some ⟨g, 0, none⟩) (ps.length + 1) cap) (ps.length + 1) (cellsOf ps ++ mark.cells)) : w.cell? ⟨g, ps.length * 9 + 4, none⟩ = some (.int .i64 4242) := by
  rw [h.cellAt _ (by omega), List.getElem?_append_right (by rw [cellsOf_length]; omega), cellsOf_length, Nat.add_sub_cancel_left]
  rfl

set_option maxHeartbeats 2000000 in
set_option maxRecDepth 100000 in
theorem kept_any (A : Option Addr) (g n c cap : Nat) (ps : List Pn) (w : World) (hn : ps.length = n) (hR : Rd w A ps) (hM : Rd w (some ⟨g, 0, none⟩) ps) (hm : w.cell? ⟨g, n * 9 + 4, none⟩ = some (.int .i64 4242)) (hcap : n < cap) (hlen : n ≤ 10000) :
    Calls Tryz.prog 17 #[.slice (some ⟨g, 0, none⟩) n cap, .slice A n c] w fun e w' => e = .returned (.bool true) ∧ ∃ k, w' = w.drewN k := by
  have HS := hide (same_any (some ⟨g, 0, none⟩) A n n cap c ps ps w hn hn hM hR (by omega) (by omega))
  clear hR hn hM
  go_enter Tryz.func17, Tryz.ntmps17
  go_wp2_with (go_at_call 13; (with_reducible refine (unhide HS).mono ?_); rintro e w1 ⟨rfl, k, rfl⟩; rw [decide_eq_true rfl]; replace hm : (w.drewN k).cell? ⟨g, n * 9 + 4, none⟩ = some (.int .i64 4242) := hm)
  go_ret
  exact ⟨rfl, k, rfl⟩

abbrev gone : Pn := ⟨⟨#[103, 111, 110, 101]⟩, 0, 0, 0, 0, 0, 0, 0, 0⟩
theorem grown_rfl (w : World) (r : Option Nat) : w.grownBy w r := ⟨rfl, rfl, rfl, Nat.le_refl _, fun _ _ _ => rfl⟩
theorem grown_trans {a b c : World} {r s : Option Nat} (h : a.grownBy b r) (k : b.grownBy c s) (hs : ∀ i, s = some i → r = some i ∨ a.heap.size ≤ i) : a.grownBy c r :=
  ⟨k.os.trans h.os, k.tape.trans h.tape, k.output.trans h.output, Nat.le_trans h.size k.size, fun i hi hr => (k.block i (Nat.lt_of_lt_of_le hi h.size) (fun e => by
    rcases hs i e.symm with h1 | h1
    · exact hr h1.symm
    · omega)).trans (h.block i hi hr)⟩

set_option maxHeartbeats 2000000 in
set_option maxRecDepth 100000 in
theorem spoilt_any (B : Nat) (v : Value) (n : Nat) (xs : List Value) (w : World) (hv : w.ownsRow B 40 9 v n xs) (hB : B ≤ w.heap.size) (hlen : n ≤ 10000) :
    Calls Tryz.prog 18 #[v] w fun e w' => e = .returned (.tuple #[]) ∧ w.grownBy w' v.ownBlock := by
  obtain ⟨i0, hi, hz0, hz1, hz2⟩ := info_parts info_Pane
  obtain ⟨A0, c0, rfl⟩ := own_shape hv
  go_enter Tryz.func18, Tryz.ntmps18
  go_wp2
  go_loopw [2] (fun i wr => ∃ k : Nat, k ≤ n ∧ i = .int .i64 k ∧ w.grownBy wr (Value.slice A0 n c0).ownBlock ∧ ∃ ys : List Value, Hid (wr.ownsRow B 40 9 (.slice A0 n c0) n ys)) (fun i _ => n - (intOf i).toNat)
  case atStart => exact ⟨0, Nat.zero_le _, rfl, grown_rfl _ _, xs, hv⟩
  case round =>
    obtain ⟨k, hk, rfl, hg, ys, hown⟩ := hrel
    by_cases hlt : k < n
    · obtain ⟨g, cap, hv2, hBg, hgl⟩ := hown.out.form (by omega)
      injection hv2 with e1 _ e2
      subst e1 e2
      have cc : ∀ j, j < 9 → ∃ u, wr.cell? ⟨g, k * 9 + j, none⟩ = some u := fun j hj => by
        rw [hown.out.cellAt _ (by omega)]
        have hl : k * 9 + j < ys.length := by rw [hown.out.1]; omega
        exact ⟨ys[k * 9 + j], List.getElem?_eq_getElem hl⟩
      have f0 : ∀ j, wr.frozen? ⟨g, j, none⟩ = false := fun j => hown.out.frozenAt j
      obtain ⟨u0, e0⟩ := cc 0 (by omega)
      obtain ⟨u1, e1⟩ := cc 1 (by omega)
      obtain ⟨u2, e2⟩ := cc 2 (by omega)
      obtain ⟨u3, e3⟩ := cc 3 (by omega)
      obtain ⟨u4, e4⟩ := cc 4 (by omega)
      obtain ⟨u5, e5⟩ := cc 5 (by omega)
      obtain ⟨u6, e6⟩ := cc 6 (by omega)
      obtain ⟨u7, e7⟩ := cc 7 (by omega)
      obtain ⟨u8, e8⟩ := cc 8 (by omega)
      rw [Nat.add_zero] at e0
      have p0 := f0 (k * 9)
      have p1 := f0 (k * 9 + 1)
      have p2 := f0 (k * 9 + 2)
      have p3 := f0 (k * 9 + 3)
      have p4 := f0 (k * 9 + 4)
      have p5 := f0 (k * 9 + 5)
      have p6 := f0 (k * 9 + 6)
      have p7 := f0 (k * 9 + 7)
      have p8 := f0 (k * 9 + 8)
      clear cc f0 hv
      go_wp2_with fail
      go_roundw
      case rel =>
        obtain ⟨h1, g1⟩ := hown.out.stored (k * 9) (.string ⟨#[103, 111, 110, 101]⟩)
        obtain ⟨h2, g2⟩ := h1.stored (k * 9 + 1) (.int .i64 0)
        obtain ⟨h3, g3⟩ := h2.stored (k * 9 + 2) (.int .i64 0)
        obtain ⟨h4, g4⟩ := h3.stored (k * 9 + 3) (.int .i64 0)
        obtain ⟨h5, g5⟩ := h4.stored (k * 9 + 4) (.int .i64 0)
        obtain ⟨h6, g6⟩ := h5.stored (k * 9 + 5) (.int .i64 0)
        obtain ⟨h7, g7⟩ := h6.stored (k * 9 + 6) (.int .i64 0)
        obtain ⟨h8, g8⟩ := h7.stored (k * 9 + 7) (.int .i64 0)
        obtain ⟨h9, g9⟩ := h8.stored (k * 9 + 8) (.int .i64 0)
        exact ⟨k + 1, by omega, by go_num, hg.trans (g1.trans (g2.trans (g3.trans (g4.trans (g5.trans (g6.trans (g7.trans (g8.trans g9)))))))), _, h9⟩
      case measure => simp [intOf]; omega
    · clear hv
      go_wp2_with fail
      go_loopw [0, 3] (fun v2 i w2 => ∃ k : Nat, k ≤ 20 ∧ i = .int .i64 k ∧ w.grownBy w2 (Value.slice A0 n c0).ownBlock ∧ ∃ ys : List Value, w2.ownsRow B 40 9 v2 (n + k) ys ∧ ∀ r, v2.ownBlock = some r → (Value.slice A0 n c0).ownBlock = some r ∨ w.heap.size ≤ r) (fun _ i _ => 20 - (intOf i).toNat)
      case atStart => exact ⟨0, Nat.zero_le _, rfl, hg, ys, hown.out, fun r h => .inl h⟩
      case round =>
        clear hg hown
        obtain ⟨j, hj, rfl, hg, zs, hown, hat⟩ := hrel
        by_cases hlt2 : j < 20
        · obtain ⟨A2, c2, rfl⟩ := own_shape hown
          have ha := hown.alloc (.cells gone.cells.toArray 40)
          go_wp2_with (at_builtin; refine wpList_append_own_at _ rfl _ _ 22 rfl B 40 i0 zeroPane 9 80 Tryz.underlying22 hi hz0 hz1 hz2 rfl (by decide) _ _ _ rfl ha ⟨wr.heap.size, 0, none⟩ 1 1 gone.cells rfl rfl (pn_news rfl gone) (pn_one gone) (by unfold maxLen; omega) (by omega) (by have := hg.size; simp; omega) ?_; intro v3 w3 h3 hg3 _ hat3)
          go_roundw
          case rel =>
            replace hg3 : (wr.alloc (.cells gone.cells.toArray 40)).grownBy w3 (Value.slice A2 (n + j) c2).ownBlock := hg3
            replace hat3 : v3.ownBlock = (Value.slice A2 (n + j) c2).ownBlock ∨ v3.ownBlock = some (wr.alloc (.cells gone.cells.toArray 40)).heap.size := hat3
            refine ⟨j + 1, by omega, by go_num, grown_trans (hg.trans (World.grownBy_alloc wr _ _)) hg3 hat, _, h3, fun r hr => ?_⟩
            rcases hat3 with e | e
            · rw [e] at hr
              exact hat r hr
            · rw [e] at hr
              injection hr with hr
              have := hg.size
              simp at hr
              omega
          case measure => simp [intOf]; omega
        · go_wp2_with fail
          refine bodyPost_end (results_none rfl _ _ _) rfl ⟨rfl, hg⟩
end Go.Proofs.YtciahchpdmajbaaGreatDoor
