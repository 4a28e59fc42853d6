/- The document's Begins. -/
import Derived.Test.YtciahchpdmajbaaGreatDoorRKeys2
import Derived.Test.YtciahchpdmajbaaGreatDoorAlike
namespace Go.Proofs.YtciahchpdmajbaaGreatDoor
open Go.RowKit
attribute [local go_sem ↓] Go.wp_at_zero Go.wp_at_succ

theorem all2_idx {V W : Type} {R : V → W → Prop} : ∀ {L : List V} {G : List W} {q : Nat} {x : V}, All2 R L G → L[q]? = some x → ∃ y, G[q]? = some y ∧ R x y
  | _ :: _, _ :: _, 0, x, ⟨h, _⟩, hx => by
    simp at hx
    subst hx
    exact ⟨_, rfl, h⟩
  | _ :: _, _ :: _, q + 1, x, ⟨_, t⟩, hx => by
    obtain ⟨y, h1, h2⟩ := all2_idx (q := q) t (by simpa using hx)
    exact ⟨y, by simpa using h1, h2⟩
  | [], _, _, _, _, hx => by simp at hx
theorem drewN_two (w : World) (a b : Nat) : (w.drewN a).drewN b = w.drewN (a + b) := by simp
theorem kcells_at (L : List (ByteArray × Sl)) : ∀ (q : Nat) (hq : q < L.length), (kcells L)[q * 2]? = some (.string (L[q]).1) ∧ (kcells L)[q * 2 + 1]? = some (L[q]).2.val := by
  induction L with
  | nil => intro q hq; cases hq
  | cons x L ih =>
    intro q hq
    cases q with
    | zero => exact ⟨rfl, rfl⟩
    | succ q =>
      have h := ih q (by simpa using hq)
      have e1 : (q + 1) * 2 = q * 2 + 1 + 1 := by omega
      have e2 : (q + 1) * 2 + 1 = q * 2 + 1 + 1 + 1 := by omega
      rw [e1]
      exact h
theorem rd_row {w : World} {B n c : Nat} {A : Option Addr} {ps : List Pn} (h : w.ownsRow B 40 9 (.slice A n c) n (cellsOf ps)) (hn : ps.length = n) : Rd w A ps := by
  intro i hi
  obtain ⟨g, cap, hv, _, _⟩ := h.form (by omega)
  injection hv with e1 _ e2
  subst e1 e2
  refine ⟨g, 0, rfl, fun j u hu => ?_⟩
  have hj : j < 9 := by have := (List.getElem?_eq_some_iff.1 hu).1; simpa using this
  rw [Nat.zero_add, h.cellAt _ (by omega), cellsOf_at ps i j hi hj]
  exact hu

set_option maxHeartbeats 4000000 in
set_option maxRecDepth 100000 in
theorem samekeys_true (A1 A2 : Option Addr) (m c1 c2 B1 B2 : Nat) (L1 L2 : List (ByteArray × Sl)) (G : List (ByteArray × List Pn)) (w : World) (h1 : w.ownsRow B1 32 2 (.slice A1 m c1) m (kcells L1)) (h2 : w.ownsRow B2 32 2 (.slice A2 m c2) m (kcells L2))
    (a1 : All2 (Ent B1 w) L1 G) (a2 : All2 (Ent B2 w) L2 G) (hm1 : L1.length = m) (hm2 : L2.length = m) (hG : ∀ x ∈ G, x.2.length ≤ 10000) (hlen : m ≤ 10000) :
    Calls Tryz.prog 12 #[.slice A1 m c1, .slice A2 m c2] w fun e w' => e = .returned (.bool true) ∧ ∃ k, w' = w.drewN k := by
  have H1 := hide h1
  have H2 := hide h2
  have HA1 := hide a1
  have HA2 := hide a2
  have HM1 := hide hm1
  have HM2 := hide hm2
  have HG := hide hG
  clear h1 h2 a1 a2 hm1 hm2 hG
  go_enter Tryz.func12, Tryz.ntmps12
  go_wp2
  go_loopw [5] (fun i wr => ∃ q d : Nat, q ≤ m ∧ i = .int .i64 q ∧ wr = w.drewN d) (fun i _ => m - (intOf i).toNat)
  case atStart => exact ⟨0, 0, Nat.zero_le _, rfl, rfl⟩
  case round =>
    obtain ⟨q, d, hq, rfl, hw⟩ := hrel
    by_cases hlt : q < m
    · have hl1 : q < L1.length := by rw [HM1.out]; exact hlt
      have hl2 : q < L2.length := by rw [HM2.out]; exact hlt
      obtain ⟨⟨key, qs⟩, hy1, hE1⟩ := all2_idx HA1.out (List.getElem?_eq_getElem hl1)
      obtain ⟨y2, hy2, hE2⟩ := all2_idx HA2.out (List.getElem?_eq_getElem hl2)
      obtain rfl : (key, qs) = y2 := by rw [hy1] at hy2; injection hy2
      obtain ⟨k1, k1'⟩ := kcells_at L1 q hl1
      obtain ⟨k2, k2'⟩ := kcells_at L2 q hl2
      obtain ⟨x1, hx1⟩ : ∃ x, x = L1[q] := ⟨_, rfl⟩
      obtain ⟨x2, hx2⟩ : ∃ x, x = L2[q] := ⟨_, rfl⟩
      rw [← hx1] at k1 k1' hE1
      rw [← hx2] at k2 k2' hE2
      clear hx1 hx2
      obtain ⟨key1, P1, n1, d1⟩ := x1
      obtain ⟨key2, P2, n2, d2⟩ := x2
      obtain rfl : key1 = key := hE1.1
      obtain rfl : key2 = key1 := hE2.1
      obtain rfl : n1 = qs.length := hE1.2.1
      obtain rfl : n2 = qs.length := hE2.2.1
      have hqs : qs.length ≤ 10000 := HG.out (key2, qs) (List.mem_of_getElem? hy1)
      obtain ⟨ga, capa, hva, _, _⟩ := H1.out.form (by omega)
      injection hva with e1 _ e2
      subst e1 e2
      obtain ⟨gb, capb, hvb, _, _⟩ := H2.out.form (by omega)
      injection hvb with e1 _ e2
      subst e1 e2
      have g0 : wr.cell? ⟨ga, q * 2, none⟩ = some (.string key2) := by
        rw [hw]
        show w.cell? _ = _
        rw [H1.out.cellAt _ (by omega)]
        exact k1
      have g1 : wr.cell? ⟨ga, q * 2 + 1, none⟩ = some (.slice P1 qs.length d1) := by
        rw [hw]
        show w.cell? _ = _
        rw [H1.out.cellAt _ (by omega)]
        exact k1'
      have g2 : wr.cell? ⟨gb, q * 2, none⟩ = some (.string key2) := by
        rw [hw]
        show w.cell? _ = _
        rw [H2.out.cellAt _ (by omega)]
        exact k2
      have g3 : wr.cell? ⟨gb, q * 2 + 1, none⟩ = some (.slice P2 qs.length d2) := by
        rw [hw]
        show w.cell? _ = _
        rw [H2.out.cellAt _ (by omega)]
        exact k2'
      have HS : Hid (Calls Tryz.prog 13 #[.slice P1 qs.length d1, .slice P2 qs.length d2] wr.drew (SameDone true wr.drew)) := by
        have r1 : Rd wr.drew P1 qs := by rw [hw]; exact rd_row (w := w) hE1.2.2.2 rfl
        have r2 : Rd wr.drew P2 qs := by rw [hw]; exact rd_row (w := w) hE2.2.2.2 rfl
        have h := same_any P1 P2 qs.length qs.length d1 d2 qs qs wr.drew rfl rfl r1 r2 (by omega) (by omega)
        rwa [decide_eq_true rfl] at h
      clear hE1 hE2 k1 k1' k2 k2' hy1 hy2 hl1 hl2
      have HW := hide hw
      clear hw
      go_wp2_with fail
      go_region_held3 (fun w0 => w0.cell? ⟨ga, q * 2, none⟩ = some (.string key2) ∧ w0.cell? ⟨ga, q * 2 + 1, none⟩ = some (.slice P1 qs.length d1) ∧ w0.cell? ⟨gb, q * 2, none⟩ = some (.string key2) ∧ w0.cell? ⟨gb, q * 2 + 1, none⟩ = some (.slice P2 qs.length d2))
        (first | exact ⟨kd g0, kd g1, kd g2, kd g3⟩ | exact ⟨g0, g1, g2, g3⟩)
        ((go_at_call 13; (with_reducible refine (unhide HS).mono ?_); rintro e w2 ⟨rfl, k, rfl⟩))
      all_goals
        go_wp2_with fail
        go_quiet (fail)
        go_wp2_with fail
        go_roundw
        case rel => exact ⟨q + 1, _, by omega, by go_num, by rw [HW.out]; exact drewN_two _ _ _⟩
        case measure => simp [intOf]; omega
    · subst hw
      go_wp2_with fail
      go_ret
      exact ⟨rfl, _, rfl⟩
end Go.Proofs.YtciahchpdmajbaaGreatDoor

namespace Go.Proofs.YtciahchpdmajbaaGreatDoor
open Go.RowKit
attribute [local go_sem ↓] Go.wp_at_zero Go.wp_at_succ

theorem Rd.take {w : World} {A : Option Addr} {ps : List Pn} (h : Rd w A ps) (k : Nat) : Rd w A (ps.take k) := fun i hi => by
  have h1 : i < ps.length := by rw [List.length_take] at hi; omega
  obtain ⟨b, o, hA, hc⟩ := h i h1
  refine ⟨b, o, hA, fun j u hu => hc j u ?_⟩
  rw [List.getElem_take] at hu
  exact hu
/-- Begins, by definition. -/
def RbDone (la lb : List Pn) (w : World) (e : Ending) (w' : World) : Prop := ∃ r, e = .returned (.bool r) ∧ (r = true ↔ ∀ k, keyed k la <+: keyed k lb) ∧ Below w.heap.size w w'
set_option maxHeartbeats 4000000 in
set_option maxRecDepth 100000 in
theorem rbegins_any (A1 : Option Addr) (n1 c1 : Nat) (la : List Pn) (A2 : Option Addr) (n2 c2 : Nat) (lb : List Pn) (w : World) (hn1 : la.length = n1) (hR1 : Rd w A1 la) (hn2 : lb.length = n2) (hR2 : Rd w A2 lb) (hl1 : n1 ≤ 10000) (hl2 : n2 ≤ 10000) :
    Calls Tryz.prog 11 #[.slice A1 n1 c1, .slice A2 n2 c2] w (RbDone la lb w) := by
  have HK := hide (rKeys_any A1 n1 c1 la w hn1 hR1 hl1)
  have HOF := hide fun (key : ByteArray) (W : World) (h : Rd W A2 lb) => rof_any A2 n2 c2 lb key W hn2 h hl2
  have HR2 := hide hR2
  have HN1 := hide hn1
  have HN2 := hide hn2
  clear hR1 hn1 hR2 hn2
  go_enter Tryz.func11, Tryz.ntmps11
  go_wp2_with (go_at_call 9; (with_reducible refine (unhide HK).mono ?_); rintro e w1 ⟨v1, L, rfl, hr1, ha1, hb1⟩; obtain ⟨B1, d1, rfl⟩ := own_shape hr1)
  obtain ⟨m, hm⟩ : ∃ m, m = L.length := ⟨_, rfl⟩
  rw [← hm] at hr1 ⊢
  have hml : m ≤ 10000 := by have h1 := ha1.length; have h2 := grp_length la; have h3 := HN1.out; omega
  have HM := hide hm
  have HA := hide ha1
  have HKR := hide hr1
  have HB1 := hide hb1
  clear hm ha1 hr1 hb1 HK
  go_loopw [6] (fun i wr => ∃ q : Nat, q ≤ m ∧ i = .int .i64 q ∧ Below w1.heap.size w1 wr ∧ Hid (∀ x ∈ (grp la).take q, keyed x.1 la <+: keyed x.1 lb)) (fun i _ => m - (intOf i).toNat)
  case atStart => exact ⟨0, Nat.zero_le _, rfl, Below.refl _ _, fun x hx => by simp at hx⟩
  case round =>
    obtain ⟨q, hq, rfl, hbw, hpre⟩ := hrel
    have hb : Below w.heap.size w wr := HB1.out.trans (hbw.mono HB1.out.size)
    by_cases hlt : q < m
    · have hl1 : q < L.length := by rw [← HM.out]; exact hlt
      obtain ⟨⟨key, qs⟩, hy1, hE1⟩ := all2_idx HA.out (List.getElem?_eq_getElem hl1)
      obtain ⟨k1, k1'⟩ := kcells_at L q hl1
      obtain ⟨x1, hx1⟩ : ∃ x, x = L[q] := ⟨_, rfl⟩
      rw [← hx1] at k1 k1' hE1
      clear hx1
      obtain ⟨key1, P1, n, d⟩ := x1
      obtain rfl : key1 = key := hE1.1
      obtain rfl : n = qs.length := hE1.2.1
      have hqk : qs = keyed key1 la := grp_mem (List.mem_of_getElem? hy1)
      have hqs : qs.length ≤ 10000 := by rw [hqk]; exact Nat.le_trans (List.length_filter_le _ _) (by have := HN1.out; omega)
      have hqne : qs ≠ [] := hE1.2.2.1
      obtain ⟨ga, capa, hva, _, _⟩ := HKR.out.form (by omega)
      injection hva with e1 _ e2
      subst e1 e2
      have g0 : wr.cell? ⟨ga, q * 2, none⟩ = some (.string key1) := below_cell hbw (by
        rw [HKR.out.cellAt _ (by omega)]
        exact k1)
      have g1 : wr.cell? ⟨ga, q * 2 + 1, none⟩ = some (.slice P1 qs.length d) := below_cell hbw (by
        rw [HKR.out.cellAt _ (by omega)]
        exact k1')
      have HRq : Hid (Rd wr P1 qs) := (rd_row hE1.2.2.2 rfl).keep hbw
      have HRb : Hid (Rd wr A2 lb) := HR2.out.keep hb
      obtain ⟨rs, hrs⟩ : ∃ rs, rs = keyed key1 lb := ⟨_, rfl⟩
      have hrl : rs.length ≤ 10000 := by rw [hrs]; exact Nat.le_trans (List.length_filter_le _ _) (by have := HN2.out; omega)
      have HOF2 : Hid (Calls Tryz.prog 14 #[.slice A2 n2 c2, .string key1] wr fun e w' => ∃ A3 c3, e = .returned (.slice A3 rs.length c3) ∧ w'.ownsRow wr.heap.size 40 9 (.slice A3 rs.length c3) rs.length (cellsOf rs) ∧ Below wr.heap.size wr w') := (HOF.out key1 _ HRb.out).mono fun e w' h => by
        obtain ⟨v, h1, h2, h3⟩ := h
        subst hrs
        obtain ⟨A3, c3, rfl⟩ := own_shape h2
        exact ⟨A3, c3, h1, h2, h3⟩
      have HY := hide hy1
      have HQK := hide hqk
      have HRS := hide hrs
      have HNE := hide hqne
      have HPP : Hid (qs.length ≤ rs.length → qs = rs.take qs.length → ∀ x ∈ (grp la).take (q + 1), keyed x.1 la <+: keyed x.1 lb) := fun _ h x hx => by
        rw [List.take_add_one, HY.out, List.mem_append] at hx
        rcases hx with hx | hx
        · exact hpre.out x hx
        · obtain rfl : x = (key1, qs) := by simpa using hx
          show keyed key1 la <+: keyed key1 lb
          rw [← HQK.out, ← HRS.out]
          exact List.prefix_iff_eq_take.2 h
      have HPN : Hid (¬ (qs.length ≤ rs.length ∧ qs = rs.take qs.length) → ¬ ∀ k, keyed k la <+: keyed k lb) := fun h h9 => h (by
        have h1 := h9 key1
        rw [← HQK.out, ← HRS.out] at h1
        exact ⟨h1.length_le, List.prefix_iff_eq_take.1 h1⟩)
      clear k1 k1' hE1 hy1 hqk hrs hqne hpre hl1
      by_cases hle : qs.length ≤ rs.length
      · go_wp2_with (go_at_call 14; (with_reducible refine (unhide HOF2).mono ?_); rintro e w2 ⟨A3, c3, rfl, hr2, hb2⟩; obtain ⟨g3, cap3, hv3, hB3, hl3⟩ := hr2.form (by have := HNE.out; cases qs with | nil => exact absurd rfl this | cons a l => simp at hle ⊢; omega); injection hv3 with e1 _ e2; subst e1 e2; have hcap := own_cap hr2; replace g1 : w2.cell? ⟨ga, q * 2 + 1, none⟩ = some (.slice P1 qs.length d) := below_cell hb2 g1; replace g0 : w2.cell? ⟨ga, q * 2, none⟩ = some (.string key1) := below_cell hb2 g0)
        have HS : ∀ b, decide (qs = rs.take qs.length) = b → Hid (Calls Tryz.prog 13 #[.slice P1 qs.length d, .slice (some ⟨g3, 0, none⟩) qs.length c3] w2.drew (SameDone b w2.drew)) := fun b hbb => by
          subst hbb
          have r1 : Rd w2.drew P1 qs := HRq.out.keep hb2.drew
          have r2 : Rd w2.drew (some ⟨g3, 0, none⟩) (rs.take qs.length) := (rd_row (w := w2.drew) hr2 rfl).take _
          exact same_any P1 (some ⟨g3, 0, none⟩) qs.length qs.length d c3 qs (rs.take qs.length) w2.drew rfl (by rw [List.length_take]; omega) r1 r2 (by omega) (by omega)
        have HRA := hide hr2
        have HBB := hide hb2
        have tlt : ((rs.length : Int) < (qs.length : Int)) = False := by simp; omega
        have hcq : qs.length ≤ c3 := by omega
        clear hr2
        by_cases heq : qs = rs.take qs.length
        · have HS2 := HS true (decide_eq_true heq)
          have HP2 := hide (HPP.out hle heq)
          clear heq HS
          go_region_held3 (fun w0 => w0.cell? ⟨ga, q * 2 + 1, none⟩ = some (.slice P1 qs.length d)) (first | exact kd g1 | exact g1)
            ((go_at_call 13; (with_reducible refine (unhide HS2).mono ?_); rintro e w3 ⟨rfl, k, rfl⟩))
          all_goals
            go_wp2_with fail
            go_roundw
            case rel => exact ⟨q + 1, by omega, by go_num, below_drewN (hbw.trans (HBB.out.mono hbw.size)) _, HP2⟩
            case measure => simp [intOf]; omega
        · have HS2 := HS false (decide_eq_false heq)
          have HP2 := hide (HPN.out (fun h => heq h.2))
          clear heq HS
          go_region_held3 (fun w0 => w0.cell? ⟨ga, q * 2 + 1, none⟩ = some (.slice P1 qs.length d)) (first | exact kd g1 | exact g1)
            ((go_at_call 13; (with_reducible refine (unhide HS2).mono ?_); rintro e w3 ⟨rfl, k, rfl⟩))
          all_goals
            go_wp2_with fail
            go_ret
            exact ⟨false, rfl, ⟨fun h => (by cases h), fun h => absurd h HP2.out⟩, below_drewN (hb.trans (HBB.out.mono hb.size)) _⟩
      · have HP2 := hide (HPN.out (fun h => hle h.1))
        have tlt : ((rs.length : Int) < (qs.length : Int)) = True := by simp; omega
        go_wp2_with (go_at_call 14; (with_reducible refine (unhide HOF2).mono ?_); rintro e w2 ⟨A3, c3, rfl, hr2, hb2⟩; replace g1 : w2.cell? ⟨ga, q * 2 + 1, none⟩ = some (.slice P1 qs.length d) := below_cell hb2 g1)
        go_quiet (fail)
        go_wp2_with fail
        go_ret
        exact ⟨false, rfl, ⟨fun h => (by cases h), fun h => absurd h HP2.out⟩, below_drewN (hb.trans (hb2.mono hb.size)) _⟩
    · have hfin : Hid (∀ k, keyed k la <+: keyed k lb) := fun k => by
        by_cases h0 : keyed k la = []
        · rw [h0]
          exact List.nil_prefix
        · have h1 := grp_get k la
          rw [if_neg h0] at h1
          have h2 := getA_mem ordS h1
          have h3 := hpre.out
          rw [List.take_of_length_le (by have h4 := HA.out.length; have h5 := HM.out; omega)] at h3
          exact h3 _ h2
      go_wp2_with fail
      go_ret
      exact ⟨true, rfl, ⟨fun _ => hfin.out, fun _ => rfl⟩, hb⟩
end Go.Proofs.YtciahchpdmajbaaGreatDoor
