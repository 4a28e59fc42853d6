/- The law PanesAlike: the walk, at most 200 panes. -/
import Derived.Test.YtciahchpdmajbaaDoorLaw0
import Derived.Test.YtciahchpdmajbaaDoorLast
import Derived.Test.YtciahchpdmajbaaDoorKeys
import Derived.Test.YtciahchpdmajbaaDoorKn5
import Derived.Deep.CutRange
namespace Go.Proofs.YtciahchpdmajbaaDoor
open Go.RowKit
attribute [local go_sem ↓] Go.wp_at_zero Go.wp_at_succ

theorem from_base {P : Program} {f : FuncId} {args : Array Value} {Wb : World} {v : Value} (h : ∀ W, Below Wb.heap.size Wb W → Calls P f args W fun e w' => e = .returned v ∧ Below W.heap.size W w') :
    ∀ W, Below Wb.heap.size Wb W → Calls P f args W fun e w' => e = .returned v ∧ Below Wb.heap.size Wb w' := fun W hW =>
  (h W hW).mono fun _ _ ⟨h1, h2⟩ => ⟨h1, hW.trans (h2.mono hW.size)⟩
section
variable {A1 A2 : Option Addr} {n1 c1 n2 c2 : Nat} {la lb : List Pn} {Wb : World}
theorem begins_is (b : Bool) (hn1 : la.length = n1) (hR1 : Rd Wb A1 la) (hn2 : lb.length = n2) (hR2 : Rd Wb A2 lb) (hl1 : n1 ≤ 10000) (hl2 : n2 ≤ 10000) (hs1 : ∀ p ∈ la, p.key.size ≤ maxLen) (hs2 : ∀ p ∈ lb, p.key.size ≤ maxLen)
    (h : b = true ↔ ∀ k, keyed k la <+: keyed k lb) : ∀ W, Below Wb.heap.size Wb W → Calls Tryd.prog 9 #[.slice A1 n1 c1, .slice A2 n2 c2] W fun e w' => e = .returned (.bool b) ∧ Below Wb.heap.size Wb w' :=
  from_base fun W hW => by
    refine (begins_any A1 n1 c1 la A2 n2 c2 lb W hn1 (hR1.keep hW) hn2 (hR2.keep hW) hl1 hl2 hs1 hs2).mono ?_
    rintro e w' ⟨r, rfl, hr, hb⟩
    have e : r = b := by
      rw [← h] at hr
      cases r <;> cases b <;> simp_all
    exact ⟨by rw [e], hb⟩
theorem alike_is (b : Bool) (hn1 : la.length = n1) (hR1 : Rd Wb A1 la) (hn2 : lb.length = n2) (hR2 : Rd Wb A2 lb) (hl1 : n1 ≤ 10000) (hl2 : n2 ≤ 10000) (hs1 : ∀ p ∈ la, p.key.size ≤ maxLen) (hs2 : ∀ p ∈ lb, p.key.size ≤ maxLen)
    (h : b = true ↔ la.length = lb.length ∧ ∀ k, keyed k la <+: keyed k lb) : ∀ W, Below Wb.heap.size Wb W → Calls Tryd.prog 8 #[.slice A1 n1 c1, .slice A2 n2 c2] W fun e w' => e = .returned (.bool b) ∧ Below Wb.heap.size Wb w' :=
  from_base fun W hW => by
    refine (alike_any A1 n1 c1 la A2 n2 c2 lb W hn1 (hR1.keep hW) hn2 (hR2.keep hW) hl1 hl2 hs1 hs2).mono ?_
    rintro e w' ⟨r, rfl, hr, hb⟩
    have e : r = b := by
      rw [← h] at hr
      cases r <;> cases b <;> simp_all
    exact ⟨by rw [e], hb⟩
end

theorem last_is {A1 : Option Addr} {n1 c1 : Nat} {la qs : List Pn} {Wb : World} (hn1 : la.length = n1) (hR1 : Rd Wb A1 la) (hl1 : n1 ≤ 10000) (hq : lastOf la = qs) :
    ∀ W, Below Wb.heap.size Wb W → Calls Tryd.prog 10 #[.slice A1 n1 c1] W fun e w' => ∃ (A' : Option Addr) (c' : Nat), e = .returned (.slice A' qs.length c') ∧ Rd w' A' qs ∧ Below W.heap.size W w' ∧ Below Wb.heap.size Wb w' := fun W hW => by
  subst hq
  refine (last_any A1 n1 c1 la W hn1 (hR1.keep hW) hl1).mono ?_
  rintro e w' ⟨v, rfl, hr, hb⟩
  obtain ⟨A', c', rfl, hrd, _⟩ := own_rd hr
  exact ⟨A', c', rfl, hrd, hb, hW.trans (hb.mono hW.size)⟩

theorem kcells_at (L : List (ByteArray × Sl)) : ∀ (i : Nat) (h : i < L.length), (kcells L)[i * 2]? = some (.string (L[i]).1) ∧ (kcells L)[i * 2 + 1]? = some (L[i]).2.val := by
  induction L with
  | nil => intro i h; cases h
  | cons x L ih =>
    intro i h
    have e : kcells (x :: L) = [.string x.1, x.2.val] ++ kcells L := rfl
    cases i with
    | zero => exact ⟨rfl, rfl⟩
    | succ i =>
      have h2 := ih i (by simpa using h)
      rw [e, List.getElem?_append_right (by simp; omega), List.getElem?_append_right (by simp; omega)]
      have e1 : (i + 1) * 2 - ([.string x.1, x.2.val] : List Value).length = i * 2 := by simp; omega
      have e2 : (i + 1) * 2 + 1 - ([.string x.1, x.2.val] : List Value).length = i * 2 + 1 := by simp; omega
      rw [e1, e2]
      exact h2
/-- The cells of what Keys tells. -/
theorem krow_cells {W : World} {B gk n ck : Nat} {L : List (ByteArray × Sl)} (h : W.ownsRow B 34 2 (.slice (some ⟨gk, 0, none⟩) n ck) n (kcells L)) {i : Nat} (hi : i < L.length) :
    W.cell? ⟨gk, i * 2, none⟩ = some (.string (L[i]).1) ∧ W.cell? ⟨gk, i * 2 + 1, none⟩ = some (L[i]).2.val := by
  have h1 := h.cells rfl (i * 2) _ (kcells_at L i hi).1
  have h2 := h.cells rfl (i * 2 + 1) _ (kcells_at L i hi).2
  have e : ∀ j, (⟨gk, 0, none⟩ : Addr).add j = ⟨gk, j, none⟩ := fun j => by unfold Addr.add; split <;> simp_all
  rw [e] at h1 h2
  exact ⟨h1, h2⟩

theorem kdn {w : World} {a : Addr} {v : Value} {n : Nat} (h : w.cell? a = some v) : (w.drewN n).cell? a = some v := h
theorem own_rd2 {W : World} {B n c : Nat} {A : Option Addr} {ps : List Pn} (h : W.ownsRow B 29 9 (.slice A n c) ps.length (cellsOf ps)) : Rd W A ps := by
  obtain ⟨A2, c2, hv, hr, _⟩ := own_rd h
  injection hv with h1
  subst h1
  exact hr
theorem same_true {W : World} {A1 A2 : Option Addr} {n1 c1 n2 c2 : Nat} {ps : List Pn} (h1 : Rd W A1 ps) (h2 : Rd W A2 ps) (hn1 : ps.length = n1) (hn2 : ps.length = n2) (hl : n1 ≤ 10000) :
    Calls Tryd.prog 6 #[.slice A1 n1 c1, .slice A2 n2 c2] W fun e w' => e = .returned (.bool true) ∧ ∃ m, w' = W.drewN m := by
  have h := same_any A1 A2 n1 n2 c1 c2 ps ps W hn1 hn2 h1 h2 (by omega) (by omega)
  rw [decide_eq_true rfl] at h
  exact h

set_option maxHeartbeats 8000000 in
set_option maxRecDepth 1000000 in
theorem law_small {B : Nat} (A : Option Addr) (n c : Nat) (ps : List Pn) (more : Pn) (w : World) (hn : ps.length = n) (hR : Rd w A ps) (hlen : n ≤ 200) (hs : ∀ p ∈ ps, p.key.size ≤ maxLen) (hsm : more.key.size ≤ maxLen) (hE : Env B w) :
    Calls Tryd.prog 3 #[.slice A n c, more.val] w fun e w' => e = .returned (.bool true) ∧ Below w.heap.size w w' := by
  obtain ⟨i0, hi, hz0, hz1, hz2⟩ := info_parts info_Pane
  have hb0 := (Below.refl _ w).alloc (Nat.le_refl _) (.cells more.cells.toArray 29)
  have HK := hide (keys_any A n c ps _ hn (hR.keep hb0) (by omega))
  have HM0 : Hid ((w.alloc (.cells more.cells.toArray 29)).heap[w.heap.size]? = some (.cells more.cells.toArray 29 (0, 0))) := heap_alloc_new w _
  have HR := hide (hR.keep hb0)
  have HE := hide (hE.on hb0)
  have HB0 := hide hb0
  have HN := hide hn
  have HS := hide hs
  have HSM := hide hsm
  clear hR hE hb0 hn hs hsm
  have hd200 : decide ((200 : Int) < (n : Int)) = false := by simp; omega
  go_enter Tryd.func3, Tryd.ntmps3
  go_wp2_with fail
  obtain ⟨W0, hW0⟩ : ∃ W0, W0 = w.alloc (.cells more.cells.toArray 29) := ⟨_, rfl⟩
  have hW0' : w.alloc (.cells #[.string more.key, .int .i64 more.s, .int .i64 more.e, .int .i64 more.kind, .int .i64 more.nth, .int .i64 more.count, .int .i64 more.sum, .int .i64 more.min, .int .i64 more.max] 29) = W0 := hW0.symm
  (try rw [hW0'])
  rw [← hW0] at HK HM0 HR HE HB0
  clear hW0 hW0'
  (with_reducible refine (unhide HK).mono ?_)
  rintro e w1 ⟨v, L, rfl, hown, hall, hb1⟩
  have HALL := hide hall
  have hll : L.length ≤ n := by
    rw [hall.length, ← HN.out]
    exact grp_length ps
  have HLG := hide (p := L.length = (grp ps).length) hall.length
  have HB1 := hide (p := Below w.heap.size w w1) (HB0.out.trans (hb1.mono HB0.out.size))
  have HR1 := hide (HR.out.keep hb1)
  have HE1 := hide (HE.out.on hb1)
  have HM1 := hide ((hb1.block _ (Tr.lt_of_some HM0.out)).trans HM0.out)
  have HOWN := hide hown
  obtain ⟨Ak, ck, rfl⟩ := own_shape hown
  clear HK HM0 HR HE HB0 hb1 hown hall
  go_wp2_with fail
  go_loopw [5, 7] (fun m i wr => ∃ j : Nat, j ≤ L.length ∧ i = .int .i64 ((j : Int) - 1) ∧ Below w1.heap.size w1 wr ∧ Hid (wr.ownsRow w1.heap.size 29 9 m (back ((grp ps).drop j)).length (cellsOf (back ((grp ps).drop j))))) (fun _ i _ => (intOf i + 1).toNat)
  case atStart => exact ⟨L.length, Nat.le_refl _, rfl, Below.refl _ _, by rw [HLG.out, List.drop_length]; exact World.ownsRow_nil _ _ _ _⟩
  case round =>
    obtain ⟨j, hj, rfl, hb, hm⟩ := hrel
    rcases j with _ | idx
    · have e1 : ((0 : Nat) : Int) - 1 = -1 := rfl
      rw [e1]
      clear e1
      have HW := hide hb
      have hmm : wr.ownsRow w1.heap.size 29 9 u5 (bk ps).length (cellsOf (bk ps)) := hm.out
      rw [bk_length] at hmm
      have hmr : ∃ Am cm, u5 = .slice Am n cm ∧ Rd wr Am (bk ps) := by
        have h := hm.out
        obtain ⟨A2, c2, rfl, hr, _⟩ := own_rd (ps := bk ps) h
        exact ⟨A2, c2, by rw [bk_length, HN.out], hr⟩
      obtain ⟨Am, cm, rfl, hrm⟩ := hmr
      rw [HN.out] at hmm
      have HMO := hide hmm
      have hkb : ∀ p ∈ bk ps, p.key.size ≤ maxLen := fun p hp => by
        obtain ⟨x, hx, hp2⟩ := List.mem_flatMap.1 hp
        have hx2 : (x.1, x.2) ∈ grp ps := List.mem_reverse.1 hx
        rw [grp_mem hx2] at hp2
        exact HS.out p (List.mem_filter.1 hp2).1
      have HRl := hide (HR1.out.keep hb)
      have HRm := hide hrm
      have HKB := hide hkb
      have HLB := hide (p := (bk ps).length = n) (by rw [bk_length, HN.out])
      have A1 := hide (alike_is (c1 := c) (c2 := cm) true HN.out HRl.out HLB.out HRm.out (by omega) (by omega) HS.out HKB.out ⟨fun _ => ⟨by rw [bk_length], fun k => by rw [keyed_bk]; exact List.prefix_refl _⟩, fun _ => rfl⟩)
      have A2 := hide (alike_is (c1 := cm) (c2 := c) true HLB.out HRm.out HN.out HRl.out (by omega) (by omega) HKB.out HS.out ⟨fun _ => ⟨by rw [bk_length], fun k => by rw [keyed_bk]; exact List.prefix_refl _⟩, fun _ => rfl⟩)
      have A3 := hide (alike_is (c1 := c) (c2 := c) true HN.out HRl.out HN.out HRl.out (by omega) (by omega) HS.out HS.out ⟨fun _ => ⟨rfl, fun k => List.prefix_refl _⟩, fun _ => rfl⟩)
      have B1 := hide (begins_is (c1 := c) (c2 := cm) true HN.out HRl.out HLB.out HRm.out (by omega) (by omega) HS.out HKB.out ⟨fun _ k => by rw [keyed_bk]; exact List.prefix_refl _, fun _ => rfl⟩)
      have B2 := hide (begins_is (c1 := cm) (c2 := c) true HLB.out HRm.out HN.out HRl.out (by omega) (by omega) HKB.out HS.out ⟨fun _ k => by rw [keyed_bk]; exact List.prefix_refl _, fun _ => rfl⟩)
      have B3 := hide (begins_is (la := []) (n1 := 0) (A1 := none) (c1 := 0) (c2 := c) true rfl (fun i hi => by cases hi) HN.out HRl.out (by omega) (by omega) (fun p hp => by cases hp) HS.out ⟨fun _ k => List.nil_prefix, fun _ => rfl⟩)
      clear hm hmm hrm hkb hb hj
      have hb0 := Below.refl wr.heap.size wr
      go_wp2_with (first | (go_at_call 8; (with_reducible refine (unhide A1 _ (by assumption)).mono ?_); rintro e W2 ⟨rfl, hb2⟩) | (go_at_call 8; (with_reducible refine (unhide A2 _ (by assumption)).mono ?_); rintro e W2 ⟨rfl, hb2⟩) | (go_at_call 8; (with_reducible refine (unhide A3 _ (by assumption)).mono ?_); rintro e W2 ⟨rfl, hb2⟩) | (go_at_call 9; (with_reducible refine (unhide B1 _ (by assumption)).mono ?_); rintro e W2 ⟨rfl, hb2⟩) | (go_at_call 9; (with_reducible refine (unhide B2 _ (by assumption)).mono ?_); rintro e W2 ⟨rfl, hb2⟩) | (go_at_call 9; (with_reducible refine (unhide B3 _ (by assumption)).mono ?_); rintro e W2 ⟨rfl, hb2⟩))
      have HB2 := hide (p := Below wr.heap.size wr W2) (by assumption)
      have hmo2 : W2.heap[w.heap.size]? = some (.cells more.cells.toArray 29 (0, 0)) := (HB2.out.block _ (Tr.lt_of_some ((HW.out.block _ (Tr.lt_of_some HM1.out)).trans HM1.out))).trans ((HW.out.block _ (Tr.lt_of_some HM1.out)).trans HM1.out)
      have x0 : W2.cell? ⟨w.heap.size, 0, none⟩ = some (.string more.key) := by rw [cell_of_row W2 _ _ _ _ (0, 0) hmo2]; rfl
      have x1 : W2.cell? ⟨w.heap.size, 1, none⟩ = some (.int .i64 more.s) := by rw [cell_of_row W2 _ _ _ _ (0, 0) hmo2]; rfl
      have x2 : W2.cell? ⟨w.heap.size, 2, none⟩ = some (.int .i64 more.e) := by rw [cell_of_row W2 _ _ _ _ (0, 0) hmo2]; rfl
      have x3 : W2.cell? ⟨w.heap.size, 3, none⟩ = some (.int .i64 more.kind) := by rw [cell_of_row W2 _ _ _ _ (0, 0) hmo2]; rfl
      have x4 : W2.cell? ⟨w.heap.size, 4, none⟩ = some (.int .i64 more.nth) := by rw [cell_of_row W2 _ _ _ _ (0, 0) hmo2]; rfl
      have x5 : W2.cell? ⟨w.heap.size, 5, none⟩ = some (.int .i64 more.count) := by rw [cell_of_row W2 _ _ _ _ (0, 0) hmo2]; rfl
      have x6 : W2.cell? ⟨w.heap.size, 6, none⟩ = some (.int .i64 more.sum) := by rw [cell_of_row W2 _ _ _ _ (0, 0) hmo2]; rfl
      have x7 : W2.cell? ⟨w.heap.size, 7, none⟩ = some (.int .i64 more.min) := by rw [cell_of_row W2 _ _ _ _ (0, 0) hmo2]; rfl
      have x8 : W2.cell? ⟨w.heap.size, 8, none⟩ = some (.int .i64 more.max) := by rw [cell_of_row W2 _ _ _ _ (0, 0) hmo2]; rfl
      have SS := hide (p := ∀ w0 : World, Below W2.heap.size W2 w0 → w0.cell? ⟨w.heap.size, 0, none⟩ = some (.string more.key) ∧ w0.cell? ⟨w.heap.size, 1, none⟩ = some (.int .i64 more.s) ∧ w0.cell? ⟨w.heap.size, 2, none⟩ = some (.int .i64 more.e) ∧ w0.cell? ⟨w.heap.size, 3, none⟩ = some (.int .i64 more.kind) ∧ w0.cell? ⟨w.heap.size, 4, none⟩ = some (.int .i64 more.nth) ∧ w0.cell? ⟨w.heap.size, 5, none⟩ = some (.int .i64 more.count) ∧ w0.cell? ⟨w.heap.size, 6, none⟩ = some (.int .i64 more.sum) ∧ w0.cell? ⟨w.heap.size, 7, none⟩ = some (.int .i64 more.min) ∧ w0.cell? ⟨w.heap.size, 8, none⟩ = some (.int .i64 more.max)) fun w0 h => ⟨below_cell h x0, below_cell h x1, below_cell h x2, below_cell h x3, below_cell h x4, below_cell h x5, below_cell h x6, below_cell h x7, below_cell h x8⟩
      have HMO2 := hide (own_keepsTy (p := fun _ => True) HMO.out (KeepsTy.below HB2.out) trivial)
      have HBK := hide (p := Below w.heap.size w W2) (HB1.out.trans ((HW.out.trans (HB2.out.mono HW.out.size)).mono HB1.out.size))
      have HEW := hide ((HE1.out.on HW.out).on HB2.out)
      have HRl2 := hide (HRl.out.keep HB2.out)
      have HRm2 := hide (HRm.out.keep HB2.out)
      clear hmo2 A1 A2 A3 B1 B2 B3 HRl HRm HE1 HM1 HR1 HALL HOWN HLG
      go_cut [8] from 113 to 117 (fun l wx => ∃ (Al : Option Addr) (cl : Nat), l = .slice Al (n + 1) cl ∧ Below W2.heap.size W2 wx ∧ Hid (Rd wx Al (bk ps ++ [more])))
      case first =>
        rcases Nat.eq_zero_or_pos n with h0 | hpos
        · subst h0
          have hbk : bk ps = [] := List.length_eq_zero_iff.1 HLB.out
          have HBKE := hide hbk
          clear hbk
          refine wp_region_held_drew (S := fun w0 => w0.cell? ⟨w.heap.size, 0, none⟩ = some (.string more.key) ∧ w0.cell? ⟨w.heap.size, 1, none⟩ = some (.int .i64 more.s) ∧ w0.cell? ⟨w.heap.size, 2, none⟩ = some (.int .i64 more.e) ∧ w0.cell? ⟨w.heap.size, 3, none⟩ = some (.int .i64 more.kind) ∧ w0.cell? ⟨w.heap.size, 4, none⟩ = some (.int .i64 more.nth) ∧ w0.cell? ⟨w.heap.size, 5, none⟩ = some (.int .i64 more.count) ∧ w0.cell? ⟨w.heap.size, 6, none⟩ = some (.int .i64 more.sum) ∧ w0.cell? ⟨w.heap.size, 7, none⟩ = some (.int .i64 more.min) ∧ w0.cell? ⟨w.heap.size, 8, none⟩ = some (.int .i64 more.max)) (by kernel_rfl) (SS.out _ (Below.refl _ _).drew) (fun hHeld => ?_)
          refine wpAnyH_take (i := 0) (v := (.slice Am 0 cm)) rfl (by kernel_rfl) (by kernel_rfl) (by kernel_rfl) (fun _ _ _ h => h) (Or.inl ⟨by kernel_rfl, fun w0 hSw => by (try dsimp only at hSw); go_simp⟩) (by assumption) ?_
          try simp only [Act.put]
          refine wpAnyH_take (i := 1) (v := (.slice none 0 0)) rfl (by kernel_rfl) (by kernel_rfl) (by kernel_rfl) (fun _ _ _ h => h) (Or.inl ⟨by kernel_rfl, fun w0 hSw => by cases Am <;> go_simp⟩) (by assumption) ?_
          try simp only [Act.put]
          refine wpAnyH_take (i := 2) (v := (.agg #[.string more.key, .int .i64 more.s, .int .i64 more.e, .int .i64 more.kind, .int .i64 more.nth, .int .i64 more.count, .int .i64 more.sum, .int .i64 more.min, .int .i64 more.max])) rfl (by kernel_rfl) (by kernel_rfl) (by kernel_rfl) (fun _ _ _ h => h) (Or.inl ⟨by kernel_rfl, fun w0 hSw => by (try dsimp only at hSw); go_simp⟩) (by assumption) ?_
          try simp only [Act.put]
          refine wpAnyH_ready (rs := [3]) (by kernel_rfl) (by simp) ?_
          refine AllReadyH.cons rfl (fun K hK => ?_) AllReadyH.nil
          go_simp
          have hBa : Below W2.heap.size W2 (W2.drew.alloc (.cells more.cells.toArray 29)) := (Below.refl _ W2).drew.alloc (Nat.le_refl _) _
          refine hK.out _ _ (SS.out _ hBa) (fun hHeld2 => ?_)
          clear hK K
          try simp only [Act.put]
          refine wpAnyH_ready (rs := [4]) (by kernel_rfl) (by simp) ?_
          refine AllReadyH.cons rfl (fun K hK => ?_) AllReadyH.nil
          refine step_append_lies _ rfl _ _ _ rfl W2.heap.size 29 i0 zeroPane 9 80 Tryd.underlying22 hi hz0 hz1 hz2 rfl (by decide) (.slice none 0 0) 0 [] rfl (World.ownsRow_nil _ _ _ _) ⟨W2.heap.size, 0, none⟩ 1 1 more.cells rfl rfl (World.news_of_block (cs := more.cells.toArray) (heap_alloc_new W2.drew _)) (pn_one more) (by decide) (by decide) (by decide) hBa.size _ rfl ?_
          intro g2 cap2 w5 hown2 hgrow2 hat2 hlt2
          have hB5 : Below W2.heap.size W2 w5 := hBa.grown hgrow2 hBa.size (fun r hr => by cases hr)
          refine hK.out _ _ (SS.out _ hB5) (fun hHeld4 => ?_)
          clear hK K
          try simp only [Act.put, List.getElem_toArray, List.getElem_cons_succ, List.getElem_cons_zero]
          refine wpAnyH_take (i := 5) (v := (.slice (some ⟨g2, 0, none⟩) (0 + 1) cap2)) rfl (by kernel_rfl) (by kernel_rfl) (by kernel_rfl) (fun _ _ _ h => h) (Or.inl ⟨by kernel_rfl, fun w0 hSw => by (try dsimp only at hSw); go_simp⟩) (by assumption) ?_
          refine wpAnyH_done (by kernel_rfl) ?_ _
          have HRD := hide (p := Rd w5 (some ⟨g2, 0, none⟩) (bk ps ++ [more])) (by
            refine own_rd2 (B := W2.heap.size) (n := 0 + 1) (c := cap2) ?_
            rw [HBKE.out, List.nil_append, cellsOf_one]
            exact hown2)
          clear hown2 hgrow2
          go_wp2_with fail
          go_meet
          exact ⟨some ⟨g2, 0, none⟩, cap2, rfl, hB5, HRD⟩
        · obtain ⟨gm, cm2, hv, hgm1, hgm2⟩ := HMO2.out.form hpos
          obtain ⟨rfl, rfl⟩ : Am = some ⟨gm, 0, none⟩ ∧ cm = cm2 := by injection hv with h1 h2 h3; exact ⟨h1, h3⟩
          have hcl : (cellsOf (bk ps)).length = n * 9 := by rw [cellsOf_length, HLB.out]
          have HCL := hide hcl
          have HNW := hide (p := ∀ j u, (cellsOf (bk ps))[j]? = some u → W2.cell? ((⟨gm, 0, none⟩ : Addr).add j) = some u) (HMO2.out.cells rfl)
          clear hv hcl hgm1 hgm2
          refine wp_region_held_drew (S := fun w0 => w0.cell? ⟨w.heap.size, 0, none⟩ = some (.string more.key) ∧ w0.cell? ⟨w.heap.size, 1, none⟩ = some (.int .i64 more.s) ∧ w0.cell? ⟨w.heap.size, 2, none⟩ = some (.int .i64 more.e) ∧ w0.cell? ⟨w.heap.size, 3, none⟩ = some (.int .i64 more.kind) ∧ w0.cell? ⟨w.heap.size, 4, none⟩ = some (.int .i64 more.nth) ∧ w0.cell? ⟨w.heap.size, 5, none⟩ = some (.int .i64 more.count) ∧ w0.cell? ⟨w.heap.size, 6, none⟩ = some (.int .i64 more.sum) ∧ w0.cell? ⟨w.heap.size, 7, none⟩ = some (.int .i64 more.min) ∧ w0.cell? ⟨w.heap.size, 8, none⟩ = some (.int .i64 more.max)) (by kernel_rfl) (SS.out _ (Below.refl _ _).drew) (fun hHeld => ?_)
          refine wpAnyH_take (i := 0) (v := (.slice (some ⟨gm, 0, none⟩) n cm)) rfl (by kernel_rfl) (by kernel_rfl) (by kernel_rfl) (fun _ _ _ h => h) (Or.inl ⟨by kernel_rfl, fun w0 hSw => by (try dsimp only at hSw); go_simp⟩) (by assumption) ?_
          try simp only [Act.put]
          refine wpAnyH_take (i := 2) (v := (.agg #[.string more.key, .int .i64 more.s, .int .i64 more.e, .int .i64 more.kind, .int .i64 more.nth, .int .i64 more.count, .int .i64 more.sum, .int .i64 more.min, .int .i64 more.max])) rfl (by kernel_rfl) (by kernel_rfl) (by kernel_rfl) (fun _ _ _ h => h) (Or.inl ⟨by kernel_rfl, fun w0 hSw => by (try dsimp only at hSw); go_simp⟩) (by assumption) ?_
          try simp only [Act.put]
          refine wpAnyH_ready (rs := [1, 3]) (by kernel_rfl) (by simp) ?_
          refine AllReadyH.cons rfl (fun K hK => ?_) (AllReadyH.cons rfl (fun K hK => ?_) AllReadyH.nil)
          · refine step_append_lies _ rfl _ _ _ rfl W2.heap.size 29 i0 zeroPane 9 80 Tryd.underlying22 hi hz0 hz1 hz2 rfl (by decide) (.slice none 0 0) 0 [] rfl (World.ownsRow_nil _ _ _ _) ⟨gm, 0, none⟩ n cm (cellsOf (bk ps)) rfl HCL.out HNW.out (cellsOf_one' _) hpos (by unfold maxLen; omega) (by omega) (Nat.le_refl _) _ rfl ?_
            intro g1 cap1 w3 hown1 hgrow1 hat1 hlt1
            have hB3 : Below W2.heap.size W2 w3 := (Below.refl _ W2).drew.grown hgrow1 (Nat.le_refl _) (fun r hr => by cases hr)
            refine hK.out _ _ (SS.out _ hB3) (fun hHeld2 => ?_)
            clear hK K
            try simp only [Act.put, List.getElem_toArray, List.getElem_cons_succ, List.getElem_cons_zero]
            refine wpAnyH_ready (rs := [3]) (by kernel_rfl) (by simp) ?_
            refine AllReadyH.cons rfl (fun K hK => ?_) AllReadyH.nil
            go_simp
            refine hK.out _ _ (SS.out _ (hB3.alloc hB3.size _)) (fun hHeld3 => ?_)
            clear hK K
            try simp only [Act.put]
            refine wpAnyH_ready (rs := [4]) (by kernel_rfl) (by simp) ?_
            refine AllReadyH.cons rfl (fun K hK => ?_) AllReadyH.nil
            have hown1' : w3.ownsRow W2.heap.size 29 9 (.slice (some ⟨g1, 0, none⟩) n cap1) n (cellsOf (bk ps)) := by simpa using hown1
            refine step_append_lies _ rfl _ _ _ rfl W2.heap.size 29 i0 zeroPane 9 80 Tryd.underlying22 hi hz0 hz1 hz2 rfl (by decide) (.slice (some ⟨g1, 0, none⟩) n cap1) n (cellsOf (bk ps)) rfl (hown1'.alloc _) ⟨w3.heap.size, 0, none⟩ 1 1 more.cells rfl rfl (pn_news rfl more) (pn_one more) (by decide) (by unfold maxLen; omega) (by omega) (hB3.alloc hB3.size _).size _ rfl ?_
            intro g2 cap2 w5 hown2 hgrow2 hat2 hlt2
            have hB5 : Below W2.heap.size W2 w5 := (hB3.alloc hB3.size (.cells more.cells.toArray 29)).grown hgrow2 (hB3.alloc hB3.size (.cells more.cells.toArray 29)).size (fun r hr => (own_block (hown1'.alloc (.cells more.cells.toArray 29)) hr).1)
            refine hK.out _ _ (SS.out _ hB5) (fun hHeld4 => ?_)
            clear hK K
            try simp only [Act.put, List.getElem_toArray, List.getElem_cons_succ, List.getElem_cons_zero]
            refine wpAnyH_take (i := 5) (v := (.slice (some ⟨g2, 0, none⟩) (n + 1) cap2)) rfl (by kernel_rfl) (by kernel_rfl) (by kernel_rfl) (fun _ _ _ h => h) (Or.inl ⟨by kernel_rfl, fun w0 hSw => by (try dsimp only at hSw); go_simp⟩) (by assumption) ?_
            refine wpAnyH_done (by kernel_rfl) ?_ _
            have HRD := hide (p := Rd w5 (some ⟨g2, 0, none⟩) (bk ps ++ [more])) (by
              refine own_rd2 (B := W2.heap.size) (n := n + 1) (c := cap2) ?_
              rw [List.length_append, HLB.out, List.length_singleton, cellsOf_append, cellsOf_one]
              exact hown2)
            clear hown2 hgrow2 hown1 hgrow1
            go_wp2_with fail
            go_meet
            exact ⟨_, _, rfl, hB5, HRD⟩
          · go_simp
            have hBa : Below W2.heap.size W2 (W2.drew.alloc (.cells more.cells.toArray 29)) := (Below.refl _ W2).drew.alloc (Nat.le_refl _) _
            refine hK.out _ _ (SS.out _ hBa) (fun hHeld2 => ?_)
            clear hK K
            try simp only [Act.put]
            refine wpAnyH_ready (rs := [1]) (by kernel_rfl) (by simp) ?_
            refine AllReadyH.cons rfl (fun K hK => ?_) AllReadyH.nil
            refine step_append_lies _ rfl _ _ _ rfl W2.heap.size 29 i0 zeroPane 9 80 Tryd.underlying22 hi hz0 hz1 hz2 rfl (by decide) (.slice none 0 0) 0 [] rfl (World.ownsRow_nil _ _ _ _) ⟨gm, 0, none⟩ n cm (cellsOf (bk ps)) rfl HCL.out (fun j u hu => below_cell hBa (HNW.out j u hu)) (cellsOf_one' _) hpos (by unfold maxLen; omega) (by omega) hBa.size _ rfl ?_
            intro g1 cap1 w3 hown1 hgrow1 hat1 hlt1
            have hB3 : Below W2.heap.size W2 w3 := hBa.grown hgrow1 hBa.size (fun r hr => by cases hr)
            refine hK.out _ _ (SS.out _ hB3) (fun hHeld3 => ?_)
            clear hK K
            try simp only [Act.put, List.getElem_toArray, List.getElem_cons_succ, List.getElem_cons_zero]
            refine wpAnyH_ready (rs := [4]) (by kernel_rfl) (by simp) ?_
            refine AllReadyH.cons rfl (fun K hK => ?_) AllReadyH.nil
            have hnb : w3.heap[W2.heap.size]? = some (.cells more.cells.toArray 29 (0, 0)) := (hgrow1.block _ (by simp) (fun e => by cases e)).trans (heap_alloc_new W2.drew _)
            refine step_append_lies _ rfl _ _ _ rfl W2.heap.size 29 i0 zeroPane 9 80 Tryd.underlying22 hi hz0 hz1 hz2 rfl (by decide) (.slice (some ⟨g1, 0, none⟩) (0 + n) cap1) (0 + n) ([] ++ cellsOf (bk ps)) rfl hown1 ⟨W2.heap.size, 0, none⟩ 1 1 more.cells rfl rfl (World.news_of_block (cs := more.cells.toArray) hnb) (pn_one more) (by decide) (by unfold maxLen; omega) (by omega) hB3.size _ rfl ?_
            intro g2 cap2 w5 hown2 hgrow2 hat2 hlt2
            have hB5 : Below W2.heap.size W2 w5 := hB3.grown hgrow2 hB3.size (fun r hr => (own_block hown1 hr).1)
            refine hK.out _ _ (SS.out _ hB5) (fun hHeld4 => ?_)
            clear hK K
            try simp only [Act.put, List.getElem_toArray, List.getElem_cons_succ, List.getElem_cons_zero]
            refine wpAnyH_take (i := 5) (v := (.slice (some ⟨g2, 0, none⟩) (0 + n + 1) cap2)) rfl (by kernel_rfl) (by kernel_rfl) (by kernel_rfl) (fun _ _ _ h => h) (Or.inl ⟨by kernel_rfl, fun w0 hSw => by (try dsimp only at hSw); go_simp⟩) (by assumption) ?_
            refine wpAnyH_done (by kernel_rfl) ?_ _
            have HRD := hide (p := Rd w5 (some ⟨g2, 0, none⟩) (bk ps ++ [more])) (by
              refine own_rd2 (B := W2.heap.size) (n := n + 1) (c := cap2) ?_
              rw [List.length_append, HLB.out, List.length_singleton, cellsOf_append, cellsOf_one]
              simpa using hown2)
            clear hown2 hgrow2 hown1 hgrow1
            go_wp2_with fail
            go_meet
            exact ⟨some ⟨g2, 0, none⟩, cap2, by rw [Nat.zero_add], hB5, HRD⟩
      case rest =>
        obtain ⟨Al, cl, rfl, hB, hRD⟩ := hcut
        have HRl3 := hide (HRl2.out.keep hB)
        have HRm3 := hide (HRm2.out.keep hB)
        have HLL := hide (p := (bk ps ++ [more]).length = n + 1) (by rw [List.length_append, HLB.out]; rfl)
        have HKL := hide (p := ∀ p ∈ bk ps ++ [more], p.key.size ≤ maxLen) (fun p hp => by
          rcases List.mem_append.1 hp with h | h
          · exact HKB.out p h
          · rw [List.mem_singleton.1 h]; exact HSM.out)
        have HB3 := hide (p := Below w.heap.size w wc) (HBK.out.trans (hB.mono HBK.out.size))
        have HE3 := hide (HEW.out.on hB)
        have C1 := hide (begins_is (c1 := c) (c2 := cl) true HN.out HRl3.out HLL.out hRD.out (by omega) (by omega) HS.out HKL.out ⟨fun _ => keyed_less ps more, fun _ => rfl⟩)
        have C2 := hide (begins_is (c1 := cl) (c2 := c) false HLL.out hRD.out HN.out HRl3.out (by omega) (by omega) HKL.out HS.out ⟨(fun h => by cases h), fun h => absurd h (keyed_more ps more)⟩)
        have C3 := hide (alike_is (c1 := c) (c2 := cl) false HN.out HRl3.out HLL.out hRD.out (by omega) (by omega) HS.out HKL.out ⟨(fun h => by cases h), fun h => absurd h.1 (by rw [HLL.out, HN.out]; omega)⟩)
        have L1 := hide (last_is (c1 := c) HN.out HRl3.out (by omega) rfl)
        have L2 := hide (last_is (c1 := cm) HLB.out HRm3.out (by omega) (lastOf_bk ps))
        clear hB hRD SS HRl2 HRm2 HEW HBK hb0
        obtain ⟨R, hR⟩ : ∃ R, R = lastOf ps := ⟨_, rfl⟩
        rw [← hR] at L1 L2
        have HRE := hide hR
        have hRn : R.length ≤ 200 := by
          rw [hR, List.length_map]
          exact Nat.le_trans (lst_length ps) (by rw [HN.out]; exact hlen)
        clear hR
        have hb0 := Below.refl wc.heap.size wc
        go_wp2_with (first | (go_at_call 9; (with_reducible refine (unhide C1 _ (by assumption)).mono ?_); rintro e W3 ⟨rfl, hb3⟩) | (go_at_call 9; (with_reducible refine (unhide C2 _ (by assumption)).mono ?_); rintro e W3 ⟨rfl, hb3⟩) | (go_at_call 8; (with_reducible refine (unhide C3 _ (by assumption)).mono ?_); rintro e W3 ⟨rfl, hb3⟩) | (go_at_call 10; (with_reducible refine (unhide L1 _ (by assumption)).mono ?_); rintro e W4 ⟨Aa, ca, rfl, hra, hba, hb4⟩) | (go_at_call 10; (with_reducible refine (unhide L2 _ (by assumption)).mono ?_); rintro e W5 ⟨Ab, cb, rfl, hrb, hbb, hb5⟩))
        have HRa := hide (p := Rd W5 Aa R) (hra.keep hbb)
        have HRb := hide hrb
        have HB5 := hide (p := Below w.heap.size w W5) (HB3.out.trans (hb5.mono HB3.out.size))
        have HE5 := hide (HE3.out.on hb5)
        clear hra hrb hba hbb hb4 hb5 hb0 C1 C2 C3 L1 L2 HE3 HB3
        go_loopw [11] (fun i wr => ∃ k m : Nat, 1 ≤ k ∧ k ≤ 1000 ∧ i = .int .i64 k ∧ wr = W5.drewN m) (fun i _ => R.length - (intOf i).toNat)
        case atStart => exact ⟨1, 0, by omega, by omega, rfl, rfl⟩
        case round =>
          obtain ⟨k, m, hk, hk2, rfl, hwr⟩ := hrel
          by_cases hlt : k < R.length
          · obtain ⟨q, hq⟩ : ∃ q, q + 1 = k := ⟨k - 1, by omega⟩
            have hqk : q < k := by omega
            have hql : q < R.length := by omega
            have hR3 := HRE.out
            have hac : acmp (akOf (R[q]'hql)) (akOf (R[k]'hlt)) = -1 := by
              have h := lastOf_lt ps hqk (by rw [← hR3]; exact hlt)
              simp only [← hR3] at h
              exact h
            clear hR3
            have hrw : Rd wr Aa R := by rw [hwr]; exact HRa.out
            obtain ⟨b, o, hA, e0, e1, e2, _⟩ := hrw.at_ hql
            obtain rfl := hA
            obtain ⟨b', o', hA, f0, f1, f2, _⟩ := hrw.at_ hlt
            obtain ⟨rfl, rfl⟩ : b' = b ∧ o' = o := by injection hA with hA; injection hA with h1 h2; exact ⟨h1.symm, h2.symm⟩
            clear hA
            obtain ⟨P, hP⟩ : ∃ P, P = R[q]'hql := ⟨_, rfl⟩
            obtain ⟨Q, hQ⟩ : ∃ Q, Q = R[k]'hlt := ⟨_, rfl⟩
            rw [← hP] at e0 e1 e2 hac
            rw [← hQ] at f0 f1 f2 hac
            have n1 : (0 : Int) ≤ (k : Int) := by omega
            have n2 : (k : Int) < (R.length : Int) := by omega
            have n3 : (0 : Int) ≤ (q : Int) := by omega
            have n4 : (q : Int) < (R.length : Int) := by omega
            have n5 : IntKind.i64.wrap ((k : Int) - 1) = (q : Int) := by rw [IntKind.wrap_i64]; omega
            have HW6 := hide hwr
            have HK := hide hk
            have HQ1 := hide hq
            clear hP hQ hwr hk hq hrw hqk
            rcases acmp_neg.1 hac with h | ⟨h, h'⟩
            · have g1 : Op.bytesLess Q.key.toList P.key.toList = false := less_asymm _ _ (scmp_neg.1 h)
              have g0 : Op.bytesLess P.key.toList Q.key.toList = true := scmp_neg.1 h
              have g2 : (P.key.toList == Q.key.toList) = false := by
                have h : scmp P.key Q.key = -1 := h
                rw [beq_eq_false_iff_ne]
                intro e
                rw [toList_inj e, scmp_self] at h
                omega
              clear h hac
              go_wp2_with fail
              go_quiet (fail)
              go_wp2_with fail
              go_roundw
              case rel => exact ⟨k + 1, m + nq, by omega, by omega, by go_num, by rw [HW6.out, World.drewN_drewN]⟩
              case measure => simp [intOf]; omega
            · have g1 : Op.bytesLess Q.key.toList P.key.toList = false := by have h2 : P.key = Q.key := h; rw [h2]; exact less_irrefl _
              have g2 : (P.key.toList == Q.key.toList) = true := by have h2 : P.key = Q.key := h; rw [h2]; simp
              have g3 : ∀ w : World, (binOp .eql 24 (.agg #[.int .i64 P.s, .int .i64 P.e]) (.agg #[.int .i64 Q.s, .int .i64 Q.e])).run Tryd.prog w = .ok (.bool false) w := fun w => by
                have h3 : P.s < Q.s ∨ P.s = Q.s ∧ P.e < Q.e := h'
                go_simp
                omega
              clear h h' hac
              go_wp2_with fail
              go_quiet (fail)
              go_wp2_with fail
              go_roundw
              case rel => exact ⟨k + 1, m + nq, by omega, by omega, by go_num, by rw [HW6.out, World.drewN_drewN]⟩
              case measure => simp [intOf]; omega
          · have HW6 := hide hwr
            clear hwr hk
            have HSm := hide fun (W : World) (h1 : Rd W Aa R) (h2 : Rd W Ab R) => same_true (c1 := ca) (c2 := cb) h1 h2 rfl rfl (by omega : R.length ≤ 10000)
            have HKn := hide fun (W : World) (h : Env B W) => known_any W h
            have ra : Rd wr Aa R := by rw [HW6.out]; exact HRa.out
            have rb : Rd wr Ab R := by rw [HW6.out]; exact HRb.out
            have re : Env B wr := by rw [HW6.out]; exact HE5.out.on (below_drewN (Below.refl _ _) _)
            have RE := hide re
            have RA := hide ra
            have RB := hide rb
            clear ra rb re
            go_wp2_with (first | (go_at_call 6; (with_reducible refine (unhide HSm _ RA.out RB.out).mono ?_); rintro e W6 ⟨rfl, m6, rfl⟩) | (go_at_call 4; (with_reducible refine (unhide HKn _ (RE.out.on (below_drewN (Below.refl _ _) _))).mono ?_); rintro e W7 ⟨rfl, hb7⟩))
            go_ret
            refine ⟨rfl, ?_⟩
            have h1 : Below w.heap.size w (wr.drewN m6) := by rw [HW6.out]; exact below_drewN (below_drewN HB5.out _) _
            exact h1.trans (hb7.mono h1.size)
    · have e1 : ((idx + 1 : Nat) : Int) - 1 = (idx : Int) := by omega
      rw [e1]
      clear e1
      have hidx : idx < L.length := hj
      obtain ⟨gk, c2, hv, _, _⟩ := HOWN.out.form (by omega)
      obtain ⟨rfl, rfl⟩ : Ak = some ⟨gk, 0, none⟩ ∧ ck = c2 := by injection hv with h1 h2 h3; exact ⟨h1, h3⟩
      clear hv
      have hent := all2_get HALL.out idx hidx (by rw [← HLG.out]; exact hidx)
      obtain ⟨x0, x1⟩ := krow_cells HOWN.out hidx
      have HX := hide (p := ∀ q (hq : q < idx), scmp (L[q]'(by omega)).1 (L[idx]'hidx).1 = -1) (fun q hq => by
        have h1 := all2_get HALL.out q (by omega) (by rw [← HLG.out]; omega)
        have h2 := grp_lt ps hq (by rw [← HLG.out]; exact hidx)
        rw [h1.1, hent.1]
        exact h2)
      have HDR := hide (back_drop (G := grp ps) (j := idx) (by rw [← HLG.out]; exact hidx))
      have HMEM := hide (p := (grp ps)[idx]'(by rw [← HLG.out]; exact hidx) ∈ grp ps) (List.getElem_mem _)
      obtain ⟨y, hy⟩ : ∃ y, y = (grp ps)[idx]'(by rw [← HLG.out]; exact hidx) := ⟨_, rfl⟩
      obtain ⟨x, hx⟩ : ∃ x, x = L[idx]'hidx := ⟨_, rfl⟩
      rw [← hx, ← hy] at hent
      rw [← hx] at x0 x1 HX
      rw [← hy] at HDR HMEM
      clear hx hy
      obtain ⟨key, A', m', c'⟩ := x
      obtain ⟨key2, qs⟩ := y
      obtain rfl : key = key2 := hent.1
      obtain rfl : m' = qs.length := hent.2.1
      obtain rfl : qs = keyed key ps := grp_mem HMEM.out
      obtain ⟨g, hgA, _, _⟩ := hent.own
      obtain rfl : A' = some ⟨g, 0, none⟩ := hgA
      have z0 : wr.cell? ⟨gk, idx * 2, none⟩ = some (.string key) := below_cell hb x0
      have z1 : wr.cell? ⟨gk, idx * 2 + 1, none⟩ = some (.slice (some ⟨g, 0, none⟩) (keyed key ps).length c') := below_cell hb x1
      have HRw : Hid (Rd wr.drew A ps) := HR1.out.keep hb.drew
      have hrq : Rd w1 (some ⟨g, 0, none⟩) (keyed key ps) := own_rd2 hent.2.2.2
      have HRq : Hid (Rd wr.drew (some ⟨g, 0, none⟩) (keyed key ps)) := hrq.keep hb.drew
      have HQL : Hid ((keyed key ps).length ≤ 10000) := Nat.le_trans (List.length_filter_le _ _) (by rw [HN.out]; omega)
      have HOF := hide fun (W : World) (h : Rd W A ps) => of_any A n c ps key W HN.out h (by omega)
      have hpos : 0 < (keyed key ps).length := by
        have := hent.2.2.1
        cases hk : keyed key ps with
        | nil => exact absurd hk this
        | cons => simp
      have hq0 : (((keyed key ps).length : Int) == 0) = false := beq_eq_false_iff_ne.2 (by omega)
      have HENT := hide hent
      have HQP := hide hpos
      have HX1 := hide x1
      clear hrq hent hpos x0 x1
      rcases Nat.eq_zero_or_pos idx with h0 | h0
      · subst h0
        go_wp2_with fail
        refine wp_region_held_drew (S := fun w0 => w0.cell? ⟨gk, 0, none⟩ = some (.string key) ∧ w0.cell? ⟨gk, 1, none⟩ = some (.slice (some ⟨g, 0, none⟩) (keyed key ps).length c')) (by kernel_rfl) ⟨kd z0, kd z1⟩ (fun hHeld => ?_)
        refine wpAnyH_take (i := 0) (v := (.slice (some ⟨gk, 0, none⟩) L.length ck)) rfl (by kernel_rfl) (by kernel_rfl) (by kernel_rfl) (fun _ _ _ h => h) (Or.inl ⟨by kernel_rfl, fun w0 hSw => by (try dsimp only at hSw); go_simp⟩) (by assumption) ?_
        try simp only [Act.put]
        refine wpAnyH_take (i := 1) (v := (.int .i64 0)) rfl (by kernel_rfl) (by kernel_rfl) (by kernel_rfl) (fun _ _ _ h => h) (Or.inl ⟨by kernel_rfl, fun w0 hSw => by (try dsimp only at hSw); go_simp⟩) (by assumption) ?_
        try simp only [Act.put]
        refine wpAnyH_take (i := 2) (v := (.pointer (some ⟨gk, 0, none⟩))) rfl (by kernel_rfl) (by kernel_rfl) (by kernel_rfl) (fun _ _ _ h => h) (Or.inl ⟨by kernel_rfl, fun w0 hSw => by (try dsimp only at hSw); go_simp⟩) (by assumption) ?_
        try simp only [Act.put]
        refine wpAnyH_take (i := 3) (v := (.pointer (some ⟨gk, 1, none⟩))) rfl (by kernel_rfl) (by kernel_rfl) (by kernel_rfl) (fun _ _ _ h => h) (Or.inl ⟨by kernel_rfl, fun w0 hSw => by (try dsimp only at hSw); go_simp⟩) (by assumption) ?_
        try simp only [Act.put]
        refine wpAnyH_take (i := 4) (v := (.slice (some ⟨g, 0, none⟩) (keyed key ps).length c')) rfl (by kernel_rfl) (by kernel_rfl) (by kernel_rfl) (fun _ _ _ h => h) (Or.inl ⟨by kernel_rfl, fun w0 hSw => by (try dsimp only at hSw); go_simp⟩) (by assumption) ?_
        try simp only [Act.put]
        refine wpAnyH_take (i := 5) (v := (.int .i64 ((keyed key ps).length : Int))) rfl (by kernel_rfl) (by kernel_rfl) (by kernel_rfl) (fun _ _ _ h => h) (Or.inl ⟨by kernel_rfl, fun w0 hSw => by (try dsimp only at hSw); go_simp⟩) (by assumption) ?_
        try simp only [Act.put]
        refine wpAnyH_take (i := 6) (v := (.bool false)) rfl (by kernel_rfl) (by kernel_rfl) (by kernel_rfl) (fun _ _ _ h => h) (Or.inl ⟨by kernel_rfl, fun w0 hSw => by (try dsimp only at hSw); go_simp⟩) (by assumption) ?_
        try simp only [Act.put]
        refine wpAnyH_take (i := 7) (v := (.bool false)) rfl (by kernel_rfl) (by kernel_rfl) (by kernel_rfl) (fun _ _ _ h => h) (Or.inl ⟨by kernel_rfl, fun w0 hSw => by (try dsimp only at hSw); go_simp⟩) (by assumption) ?_
        try simp only [Act.put]
        refine wpAnyH_take (i := 8) (v := (.int .i64 0)) rfl (by kernel_rfl) (by kernel_rfl) (by kernel_rfl) (fun _ _ _ h => h) (Or.inl ⟨by kernel_rfl, fun w0 hSw => by (try dsimp only at hSw); go_simp⟩) (by assumption) ?_
        try simp only [Act.put]
        refine wpAnyH_take (i := 9) (v := (.bool false)) rfl (by kernel_rfl) (by kernel_rfl) (by kernel_rfl) (fun _ _ _ h => h) (Or.inl ⟨by kernel_rfl, fun w0 hSw => by (try dsimp only at hSw); go_simp⟩) (by assumption) ?_
        try simp only [Act.put]
        refine wpAnyH_take (i := 10) (v := (.bool false)) rfl (by kernel_rfl) (by kernel_rfl) (by kernel_rfl) (fun _ _ _ h => h) (Or.inl ⟨by kernel_rfl, fun w0 hSw => by (try dsimp only at hSw); go_simp⟩) (by assumption) ?_
        try simp only [Act.put]
        refine wpAnyH_take (i := 11) (v := undef) rfl (by kernel_rfl) (by kernel_rfl) (by kernel_rfl) (fun _ _ _ h => h) (Or.inr ⟨by kernel_rfl, rfl⟩) (by assumption) ?_
        try simp only [Act.put]
        refine wpAnyH_take (i := 12) (v := undef) rfl (by kernel_rfl) (by kernel_rfl) (by kernel_rfl) (fun _ _ _ h => h) (Or.inr ⟨by kernel_rfl, rfl⟩) (by assumption) ?_
        try simp only [Act.put]
        refine wpAnyH_take (i := 13) (v := undef) rfl (by kernel_rfl) (by kernel_rfl) (by kernel_rfl) (fun _ _ _ h => h) (Or.inr ⟨by kernel_rfl, rfl⟩) (by assumption) ?_
        try simp only [Act.put]
        refine wpAnyH_take (i := 14) (v := undef) rfl (by kernel_rfl) (by kernel_rfl) (by kernel_rfl) (fun _ _ _ h => h) (Or.inr ⟨by kernel_rfl, rfl⟩) (by assumption) ?_
        try simp only [Act.put]
        refine wpAnyH_take (i := 15) (v := undef) rfl (by kernel_rfl) (by kernel_rfl) (by kernel_rfl) (fun _ _ _ h => h) (Or.inr ⟨by kernel_rfl, rfl⟩) (by assumption) ?_
        try simp only [Act.put]
        refine wpAnyH_take (i := 16) (v := undef) rfl (by kernel_rfl) (by kernel_rfl) (by kernel_rfl) (fun _ _ _ h => h) (Or.inr ⟨by kernel_rfl, rfl⟩) (by assumption) ?_
        try simp only [Act.put]
        refine wpAnyH_take (i := 17) (v := undef) rfl (by kernel_rfl) (by kernel_rfl) (by kernel_rfl) (fun _ _ _ h => h) (Or.inr ⟨by kernel_rfl, rfl⟩) (by assumption) ?_
        try simp only [Act.put]
        refine wpAnyH_take (i := 18) (v := undef) rfl (by kernel_rfl) (by kernel_rfl) (by kernel_rfl) (fun _ _ _ h => h) (Or.inr ⟨by kernel_rfl, rfl⟩) (by assumption) ?_
        try simp only [Act.put]
        refine wpAnyH_take (i := 19) (v := undef) rfl (by kernel_rfl) (by kernel_rfl) (by kernel_rfl) (fun _ _ _ h => h) (Or.inr ⟨by kernel_rfl, rfl⟩) (by assumption) ?_
        try simp only [Act.put]
        refine wpAnyH_take (i := 20) (v := undef) rfl (by kernel_rfl) (by kernel_rfl) (by kernel_rfl) (fun _ _ _ h => h) (Or.inr ⟨by kernel_rfl, rfl⟩) (by assumption) ?_
        try simp only [Act.put]
        refine wpAnyH_take (i := 21) (v := undef) rfl (by kernel_rfl) (by kernel_rfl) (by kernel_rfl) (fun _ _ _ h => h) (Or.inr ⟨by kernel_rfl, rfl⟩) (by assumption) ?_
        try simp only [Act.put]
        refine wpAnyH_take (i := 22) (v := undef) rfl (by kernel_rfl) (by kernel_rfl) (by kernel_rfl) (fun _ _ _ h => h) (Or.inr ⟨by kernel_rfl, rfl⟩) (by assumption) ?_
        try simp only [Act.put]
        refine wpAnyH_take (i := 23) (v := (.bool false)) rfl (by kernel_rfl) (by kernel_rfl) (by kernel_rfl) (fun _ _ _ h => h) (Or.inl ⟨by kernel_rfl, fun w0 hSw => by (try dsimp only at hSw); go_simp⟩) (by assumption) ?_
        try simp only [Act.put]
        refine wpAnyH_take (i := 24) (v := (.bool false)) rfl (by kernel_rfl) (by kernel_rfl) (by kernel_rfl) (fun _ _ _ h => h) (Or.inl ⟨by kernel_rfl, fun w0 hSw => by (try dsimp only at hSw); go_simp⟩) (by assumption) ?_
        try simp only [Act.put]
        refine wpAnyH_take (i := 25) (v := (.bool false)) rfl (by kernel_rfl) (by kernel_rfl) (by kernel_rfl) (fun _ _ _ h => h) (Or.inl ⟨by kernel_rfl, fun w0 hSw => by (try dsimp only at hSw); go_simp⟩) (by assumption) ?_
        try simp only [Act.put]
        refine wpAnyH_take (i := 26) (v := (.slice (some ⟨gk, 0, none⟩) L.length ck)) rfl (by kernel_rfl) (by kernel_rfl) (by kernel_rfl) (fun _ _ _ h => h) (Or.inl ⟨by kernel_rfl, fun w0 hSw => by (try dsimp only at hSw); go_simp⟩) (by assumption) ?_
        try simp only [Act.put]
        refine wpAnyH_take (i := 27) (v := (.int .i64 0)) rfl (by kernel_rfl) (by kernel_rfl) (by kernel_rfl) (fun _ _ _ h => h) (Or.inl ⟨by kernel_rfl, fun w0 hSw => by (try dsimp only at hSw); go_simp⟩) (by assumption) ?_
        try simp only [Act.put]
        refine wpAnyH_take (i := 28) (v := (.pointer (some ⟨gk, 0, none⟩))) rfl (by kernel_rfl) (by kernel_rfl) (by kernel_rfl) (fun _ _ _ h => h) (Or.inl ⟨by kernel_rfl, fun w0 hSw => by (try dsimp only at hSw); go_simp⟩) (by assumption) ?_
        try simp only [Act.put]
        refine wpAnyH_take (i := 29) (v := (.pointer (some ⟨gk, 1, none⟩))) rfl (by kernel_rfl) (by kernel_rfl) (by kernel_rfl) (fun _ _ _ h => h) (Or.inl ⟨by kernel_rfl, fun w0 hSw => by (try dsimp only at hSw); go_simp⟩) (by assumption) ?_
        try simp only [Act.put]
        refine wpAnyH_take (i := 30) (v := (.slice (some ⟨g, 0, none⟩) (keyed key ps).length c')) rfl (by kernel_rfl) (by kernel_rfl) (by kernel_rfl) (fun _ _ _ h => h) (Or.inl ⟨by kernel_rfl, fun w0 hSw => by (try dsimp only at hSw); go_simp⟩) (by assumption) ?_
        try simp only [Act.put]
        refine wpAnyH_take (i := 31) (v := (.slice A n c)) rfl (by kernel_rfl) (by kernel_rfl) (by kernel_rfl) (fun _ _ _ h => h) (Or.inl ⟨by kernel_rfl, fun w0 hSw => by (try dsimp only at hSw); go_simp⟩) (by assumption) ?_
        try simp only [Act.put]
        refine wpAnyH_take (i := 32) (v := (.slice (some ⟨gk, 0, none⟩) L.length ck)) rfl (by kernel_rfl) (by kernel_rfl) (by kernel_rfl) (fun _ _ _ h => h) (Or.inl ⟨by kernel_rfl, fun w0 hSw => by (try dsimp only at hSw); go_simp⟩) (by assumption) ?_
        try simp only [Act.put]
        refine wpAnyH_take (i := 33) (v := (.int .i64 0)) rfl (by kernel_rfl) (by kernel_rfl) (by kernel_rfl) (fun _ _ _ h => h) (Or.inl ⟨by kernel_rfl, fun w0 hSw => by (try dsimp only at hSw); go_simp⟩) (by assumption) ?_
        try simp only [Act.put]
        refine wpAnyH_take (i := 34) (v := (.pointer (some ⟨gk, 0, none⟩))) rfl (by kernel_rfl) (by kernel_rfl) (by kernel_rfl) (fun _ _ _ h => h) (Or.inl ⟨by kernel_rfl, fun w0 hSw => by (try dsimp only at hSw); go_simp⟩) (by assumption) ?_
        try simp only [Act.put]
        refine wpAnyH_take (i := 35) (v := (.pointer (some ⟨gk, 0, none⟩))) rfl (by kernel_rfl) (by kernel_rfl) (by kernel_rfl) (fun _ _ _ h => h) (Or.inl ⟨by kernel_rfl, fun w0 hSw => by (try dsimp only at hSw); go_simp⟩) (by assumption) ?_
        try simp only [Act.put]
        refine wpAnyH_take (i := 36) (v := (.string key)) rfl (by kernel_rfl) (by kernel_rfl) (by kernel_rfl) (fun _ _ _ h => h) (Or.inl ⟨by kernel_rfl, fun w0 hSw => by (try dsimp only at hSw); go_simp⟩) (by assumption) ?_
        try simp only [Act.put]
        refine wpAnyH_ready (rs := [37]) (by kernel_rfl) (by simp) ?_
        refine AllReadyH.cons rfl (fun K hK => ?_) AllReadyH.nil
        go_simp
        (with_reducible refine (unhide HOF _ HRw.out).mono ?_)
        rintro e W3 ⟨v3, rfl, hr3, hb3⟩
        obtain ⟨A3, c3, rfl, hrd3, _⟩ := own_rd hr3
        go_wp2_with fail
        refine hK.out _ _ ⟨below_cell hb3 (kd z0), below_cell hb3 (kd z1)⟩ (fun hHeld => ?_)
        clear hK K
        try simp only [Act.put]
        refine wpAnyH_ready (rs := [38]) (by kernel_rfl) (by simp) ?_
        refine AllReadyH.cons rfl (fun K hK => ?_) AllReadyH.nil
        go_simp
        (with_reducible refine (same_true (HRq.out.keep hb3) hrd3 rfl rfl HQL.out).mono ?_)
        rintro e W4 ⟨rfl, m4, rfl⟩
        go_wp2_with fail
        refine hK.out _ _ ⟨kdn (below_cell hb3 (kd z0)), kdn (below_cell hb3 (kd z1))⟩ (fun hHeld => ?_)
        clear hK K
        try simp only [Act.put]
        refine wpAnyH_take (i := 39) (v := (.bool false)) rfl (by kernel_rfl) (by kernel_rfl) (by kernel_rfl) (fun _ _ _ h => h) (Or.inl ⟨by kernel_rfl, fun w0 hSw => by (try dsimp only at hSw); go_simp⟩) (by assumption) ?_
        try simp only [Act.put]
        refine wpAnyH_take (i := 40) (v := (.bool false)) rfl (by kernel_rfl) (by kernel_rfl) (by kernel_rfl) (fun _ _ _ h => h) (Or.inl ⟨by kernel_rfl, fun w0 hSw => by (try dsimp only at hSw); go_simp⟩) (by assumption) ?_
        try simp only [Act.put]
        refine wpAnyH_done (by kernel_rfl) ?_ _
        go_simp
        have HBW := hide (p := Below w1.heap.size w1 (W3.drewN m4)) (below_drewN (hb.drew.trans (hb3.mono hb.size)) m4)
        have hmw : (W3.drewN m4).ownsRow w1.heap.size 29 9 u5 (back ((grp ps).drop (0 + 1))).length (cellsOf (back ((grp ps).drop (0 + 1)))) := own_keepsTy (p := fun _ => True) hm.out (KeepsTy.below (below_drewN ((Below.refl _ wr).drew.trans (hb3.mono (Nat.le_refl _))) m4)) trivial
        have hsrc := (own_keepsTy (p := fun _ => True) HENT.out.2.2.2 (KeepsTy.below HBW.out) trivial)
        obtain ⟨W, hW⟩ : ∃ W, W = W3.drewN m4 := ⟨_, rfl⟩
        rw [← hW] at HBW hmw hsrc ⊢
        have y1 : W.cell? ⟨gk, 1, none⟩ = some (.slice (some ⟨g, 0, none⟩) (keyed key ps).length c') := below_cell HBW.out HX1.out
        have hnews : ∀ j u, (cellsOf (keyed key ps))[j]? = some u → W.cell? ((⟨g, 0, none⟩ : Addr).add j) = some u := hsrc.cells rfl
        have HNW := hide hnews
        have HCL := hide (cellsOf_length (keyed key ps))
        obtain ⟨M, hM⟩ : ∃ M, M = (back ((grp ps).drop (0 + 1))).length := ⟨_, rfl⟩
        have hM2 : M ≤ n := by rw [hM, ← HN.out]; exact back_drop_len ps _
        have hK2 : (keyed key ps).length ≤ n := by rw [← HN.out]; exact List.length_filter_le _ _
        rw [← hM] at hmw
        have HMM := hide hM
        have HBS : Hid (w1.heap.size ≤ W.heap.size) := HBW.out.size
        clear hM hW hb3 hr3 hrd3 hb z0 z1 hm hsrc hnews
        go_wp2_with (at_builtin; refine wpList_append_own _ rfl _ _ 22 rfl w1.heap.size 29 i0 zeroPane 9 80 Tryd.underlying22 hi hz0 hz1 hz2 rfl (by decide) _ _ _ rfl hmw ⟨g, 0, none⟩ (keyed key ps).length c' (cellsOf (keyed key ps)) rfl HCL.out HNW.out (cellsOf_one' _) (by unfold maxLen; omega) (by omega) HBS.out ?_; intro v' w5 hown' hgrow _)
        have HOW := hide (p := w5.ownsRow w1.heap.size 29 9 v' (back ((grp ps).drop 0)).length (cellsOf (back ((grp ps).drop 0)))) (by
          rw [HDR.out, List.length_append, cellsOf_append, ← HMM.out]
          exact hown')
        have HB5 := hide (p := Below w1.heap.size w1 w5) (HBW.out.grown hgrow HBW.out.size (fun r hr => (own_block hmw hr).1))
        clear hown' hgrow hmw y1
        go_roundw
        case rel => exact ⟨0, by omega, by first | rfl | go_num, HB5.out, HOW⟩
        case measure => simp [intOf]
      · obtain ⟨q, hq⟩ : ∃ q, q + 1 = idx := ⟨idx - 1, by omega⟩
        have hql : q < L.length := by omega
        have hqi : q < idx := by omega
        have z2' := (krow_cells HOWN.out hql).1
        have hcmp := HX.out q hqi
        obtain ⟨kq, hkq⟩ : ∃ kq, kq = (L[q]'hql).1 := ⟨_, rfl⟩
        rw [← hkq] at z2' hcmp
        have z2 : wr.cell? ⟨gk, q * 2, none⟩ = some (.string kq) := below_cell hb z2'
        have hless := scmp_neg.1 hcmp
        have n1 : (0 : Int) ≤ (idx : Int) := by omega
        have n2 : (idx : Int) < (L.length : Int) := by omega
        have n3 : (0 : Int) ≤ (q : Int) := by omega
        have n4 : (q : Int) < (L.length : Int) := by omega
        have n5 : IntKind.i64.wrap ((idx : Int) - 1) = (q : Int) := by rw [IntKind.wrap_i64]; omega
        have n6 : decide ((0 : Int) < (idx : Int)) = true := by simp; omega
        clear hkq z2' hcmp
        have HQ := hide hq
        clear hq
        go_wp2_with fail
        refine wp_region_held_drew (S := fun w0 => w0.cell? ⟨gk, idx * 2, none⟩ = some (.string key) ∧ w0.cell? ⟨gk, idx * 2 + 1, none⟩ = some (.slice (some ⟨g, 0, none⟩) (keyed key ps).length c') ∧ w0.cell? ⟨gk, q * 2, none⟩ = some (.string kq)) (by kernel_rfl) ⟨kd z0, kd z1, kd z2⟩ (fun hHeld => ?_)
        refine wpAnyH_take (i := 0) (v := (.slice (some ⟨gk, 0, none⟩) L.length ck)) rfl (by kernel_rfl) (by kernel_rfl) (by kernel_rfl) (fun _ _ _ h => h) (Or.inl ⟨by kernel_rfl, fun w0 hSw => by (try dsimp only at hSw); go_simp⟩) (by assumption) ?_
        try simp only [Act.put]
        refine wpAnyH_take (i := 1) (v := (.int .i64 (idx : Int))) rfl (by kernel_rfl) (by kernel_rfl) (by kernel_rfl) (fun _ _ _ h => h) (Or.inl ⟨by kernel_rfl, fun w0 hSw => by (try dsimp only at hSw); go_simp⟩) (by assumption) ?_
        try simp only [Act.put]
        refine wpAnyH_take (i := 2) (v := (.pointer (some ⟨gk, idx * 2, none⟩))) rfl (by kernel_rfl) (by kernel_rfl) (by kernel_rfl) (fun _ _ _ h => h) (Or.inl ⟨by kernel_rfl, fun w0 hSw => by (try dsimp only at hSw); go_simp⟩) (by assumption) ?_
        try simp only [Act.put]
        refine wpAnyH_take (i := 3) (v := (.pointer (some ⟨gk, idx * 2 + 1, none⟩))) rfl (by kernel_rfl) (by kernel_rfl) (by kernel_rfl) (fun _ _ _ h => h) (Or.inl ⟨by kernel_rfl, fun w0 hSw => by (try dsimp only at hSw); go_simp⟩) (by assumption) ?_
        try simp only [Act.put]
        refine wpAnyH_take (i := 4) (v := (.slice (some ⟨g, 0, none⟩) (keyed key ps).length c')) rfl (by kernel_rfl) (by kernel_rfl) (by kernel_rfl) (fun _ _ _ h => h) (Or.inl ⟨by kernel_rfl, fun w0 hSw => by (try dsimp only at hSw); go_simp⟩) (by assumption) ?_
        try simp only [Act.put]
        refine wpAnyH_take (i := 5) (v := (.int .i64 ((keyed key ps).length : Int))) rfl (by kernel_rfl) (by kernel_rfl) (by kernel_rfl) (fun _ _ _ h => h) (Or.inl ⟨by kernel_rfl, fun w0 hSw => by (try dsimp only at hSw); go_simp⟩) (by assumption) ?_
        try simp only [Act.put]
        refine wpAnyH_take (i := 6) (v := (.bool false)) rfl (by kernel_rfl) (by kernel_rfl) (by kernel_rfl) (fun _ _ _ h => h) (Or.inl ⟨by kernel_rfl, fun w0 hSw => by (try dsimp only at hSw); go_simp⟩) (by assumption) ?_
        try simp only [Act.put]
        refine wpAnyH_take (i := 7) (v := (.bool false)) rfl (by kernel_rfl) (by kernel_rfl) (by kernel_rfl) (fun _ _ _ h => h) (Or.inl ⟨by kernel_rfl, fun w0 hSw => by (try dsimp only at hSw); go_simp⟩) (by assumption) ?_
        try simp only [Act.put]
        refine wpAnyH_take (i := 8) (v := (.int .i64 (idx : Int))) rfl (by kernel_rfl) (by kernel_rfl) (by kernel_rfl) (fun _ _ _ h => h) (Or.inl ⟨by kernel_rfl, fun w0 hSw => by (try dsimp only at hSw); go_simp⟩) (by assumption) ?_
        try simp only [Act.put]
        refine wpAnyH_take (i := 9) (v := (.bool true)) rfl (by kernel_rfl) (by kernel_rfl) (by kernel_rfl) (fun _ _ _ h => h) (Or.inl ⟨by kernel_rfl, fun w0 hSw => by (try dsimp only at hSw); go_simp⟩) (by assumption) ?_
        try simp only [Act.put]
        refine wpAnyH_take (i := 10) (v := (.bool true)) rfl (by kernel_rfl) (by kernel_rfl) (by kernel_rfl) (fun _ _ _ h => h) (Or.inl ⟨by kernel_rfl, fun w0 hSw => by (try dsimp only at hSw); go_simp⟩) (by assumption) ?_
        try simp only [Act.put]
        refine wpAnyH_take (i := 11) (v := (.slice (some ⟨gk, 0, none⟩) L.length ck)) rfl (by kernel_rfl) (by kernel_rfl) (by kernel_rfl) (fun _ _ _ h => h) (Or.inl ⟨by kernel_rfl, fun w0 hSw => by (try dsimp only at hSw); go_simp⟩) (by assumption) ?_
        try simp only [Act.put]
        refine wpAnyH_take (i := 12) (v := (.int .i64 (idx : Int))) rfl (by kernel_rfl) (by kernel_rfl) (by kernel_rfl) (fun _ _ _ h => h) (Or.inl ⟨by kernel_rfl, fun w0 hSw => by (try dsimp only at hSw); go_simp⟩) (by assumption) ?_
        try simp only [Act.put]
        refine wpAnyH_take (i := 13) (v := (.int .i64 (q : Int))) rfl (by kernel_rfl) (by kernel_rfl) (by kernel_rfl) (fun _ _ _ h => h) (Or.inl ⟨by kernel_rfl, fun w0 hSw => by (try dsimp only at hSw); go_simp⟩) (by assumption) ?_
        try simp only [Act.put]
        refine wpAnyH_take (i := 14) (v := (.pointer (some ⟨gk, q * 2, none⟩))) rfl (by kernel_rfl) (by kernel_rfl) (by kernel_rfl) (fun _ _ _ h => h) (Or.inl ⟨by kernel_rfl, fun w0 hSw => by (try dsimp only at hSw); go_simp⟩) (by assumption) ?_
        try simp only [Act.put]
        refine wpAnyH_take (i := 15) (v := (.pointer (some ⟨gk, q * 2, none⟩))) rfl (by kernel_rfl) (by kernel_rfl) (by kernel_rfl) (fun _ _ _ h => h) (Or.inl ⟨by kernel_rfl, fun w0 hSw => by (try dsimp only at hSw); go_simp⟩) (by assumption) ?_
        try simp only [Act.put]
        refine wpAnyH_take (i := 16) (v := (.string kq)) rfl (by kernel_rfl) (by kernel_rfl) (by kernel_rfl) (fun _ _ _ h => h) (Or.inl ⟨by kernel_rfl, fun w0 hSw => by (try dsimp only at hSw); go_simp⟩) (by assumption) ?_
        try simp only [Act.put]
        refine wpAnyH_take (i := 17) (v := (.slice (some ⟨gk, 0, none⟩) L.length ck)) rfl (by kernel_rfl) (by kernel_rfl) (by kernel_rfl) (fun _ _ _ h => h) (Or.inl ⟨by kernel_rfl, fun w0 hSw => by (try dsimp only at hSw); go_simp⟩) (by assumption) ?_
        try simp only [Act.put]
        refine wpAnyH_take (i := 18) (v := (.int .i64 (idx : Int))) rfl (by kernel_rfl) (by kernel_rfl) (by kernel_rfl) (fun _ _ _ h => h) (Or.inl ⟨by kernel_rfl, fun w0 hSw => by (try dsimp only at hSw); go_simp⟩) (by assumption) ?_
        try simp only [Act.put]
        refine wpAnyH_take (i := 19) (v := (.pointer (some ⟨gk, idx * 2, none⟩))) rfl (by kernel_rfl) (by kernel_rfl) (by kernel_rfl) (fun _ _ _ h => h) (Or.inl ⟨by kernel_rfl, fun w0 hSw => by (try dsimp only at hSw); go_simp⟩) (by assumption) ?_
        try simp only [Act.put]
        refine wpAnyH_take (i := 20) (v := (.pointer (some ⟨gk, idx * 2, none⟩))) rfl (by kernel_rfl) (by kernel_rfl) (by kernel_rfl) (fun _ _ _ h => h) (Or.inl ⟨by kernel_rfl, fun w0 hSw => by (try dsimp only at hSw); go_simp⟩) (by assumption) ?_
        try simp only [Act.put]
        refine wpAnyH_take (i := 21) (v := (.string key)) rfl (by kernel_rfl) (by kernel_rfl) (by kernel_rfl) (fun _ _ _ h => h) (Or.inl ⟨by kernel_rfl, fun w0 hSw => by (try dsimp only at hSw); go_simp⟩) (by assumption) ?_
        try simp only [Act.put]
        refine wpAnyH_take (i := 22) (v := (.bool false)) rfl (by kernel_rfl) (by kernel_rfl) (by kernel_rfl) (fun _ _ _ h => h) (Or.inl ⟨by kernel_rfl, fun w0 hSw => by (try dsimp only at hSw); go_simp⟩) (by assumption) ?_
        try simp only [Act.put]
        refine wpAnyH_take (i := 23) (v := (.bool false)) rfl (by kernel_rfl) (by kernel_rfl) (by kernel_rfl) (fun _ _ _ h => h) (Or.inl ⟨by kernel_rfl, fun w0 hSw => by (try dsimp only at hSw); go_simp⟩) (by assumption) ?_
        try simp only [Act.put]
        refine wpAnyH_take (i := 24) (v := (.bool false)) rfl (by kernel_rfl) (by kernel_rfl) (by kernel_rfl) (fun _ _ _ h => h) (Or.inl ⟨by kernel_rfl, fun w0 hSw => by (try dsimp only at hSw); go_simp⟩) (by assumption) ?_
        try simp only [Act.put]
        refine wpAnyH_take (i := 25) (v := (.bool false)) rfl (by kernel_rfl) (by kernel_rfl) (by kernel_rfl) (fun _ _ _ h => h) (Or.inl ⟨by kernel_rfl, fun w0 hSw => by (try dsimp only at hSw); go_simp⟩) (by assumption) ?_
        try simp only [Act.put]
        refine wpAnyH_take (i := 26) (v := (.slice (some ⟨gk, 0, none⟩) L.length ck)) rfl (by kernel_rfl) (by kernel_rfl) (by kernel_rfl) (fun _ _ _ h => h) (Or.inl ⟨by kernel_rfl, fun w0 hSw => by (try dsimp only at hSw); go_simp⟩) (by assumption) ?_
        try simp only [Act.put]
        refine wpAnyH_take (i := 27) (v := (.int .i64 (idx : Int))) rfl (by kernel_rfl) (by kernel_rfl) (by kernel_rfl) (fun _ _ _ h => h) (Or.inl ⟨by kernel_rfl, fun w0 hSw => by (try dsimp only at hSw); go_simp⟩) (by assumption) ?_
        try simp only [Act.put]
        refine wpAnyH_take (i := 28) (v := (.pointer (some ⟨gk, idx * 2, none⟩))) rfl (by kernel_rfl) (by kernel_rfl) (by kernel_rfl) (fun _ _ _ h => h) (Or.inl ⟨by kernel_rfl, fun w0 hSw => by (try dsimp only at hSw); go_simp⟩) (by assumption) ?_
        try simp only [Act.put]
        refine wpAnyH_take (i := 29) (v := (.pointer (some ⟨gk, idx * 2 + 1, none⟩))) rfl (by kernel_rfl) (by kernel_rfl) (by kernel_rfl) (fun _ _ _ h => h) (Or.inl ⟨by kernel_rfl, fun w0 hSw => by (try dsimp only at hSw); go_simp⟩) (by assumption) ?_
        try simp only [Act.put]
        refine wpAnyH_take (i := 30) (v := (.slice (some ⟨g, 0, none⟩) (keyed key ps).length c')) rfl (by kernel_rfl) (by kernel_rfl) (by kernel_rfl) (fun _ _ _ h => h) (Or.inl ⟨by kernel_rfl, fun w0 hSw => by (try dsimp only at hSw); go_simp⟩) (by assumption) ?_
        try simp only [Act.put]
        refine wpAnyH_take (i := 31) (v := (.slice A n c)) rfl (by kernel_rfl) (by kernel_rfl) (by kernel_rfl) (fun _ _ _ h => h) (Or.inl ⟨by kernel_rfl, fun w0 hSw => by (try dsimp only at hSw); go_simp⟩) (by assumption) ?_
        try simp only [Act.put]
        refine wpAnyH_take (i := 32) (v := (.slice (some ⟨gk, 0, none⟩) L.length ck)) rfl (by kernel_rfl) (by kernel_rfl) (by kernel_rfl) (fun _ _ _ h => h) (Or.inl ⟨by kernel_rfl, fun w0 hSw => by (try dsimp only at hSw); go_simp⟩) (by assumption) ?_
        try simp only [Act.put]
        refine wpAnyH_take (i := 33) (v := (.int .i64 (idx : Int))) rfl (by kernel_rfl) (by kernel_rfl) (by kernel_rfl) (fun _ _ _ h => h) (Or.inl ⟨by kernel_rfl, fun w0 hSw => by (try dsimp only at hSw); go_simp⟩) (by assumption) ?_
        try simp only [Act.put]
        refine wpAnyH_take (i := 34) (v := (.pointer (some ⟨gk, idx * 2, none⟩))) rfl (by kernel_rfl) (by kernel_rfl) (by kernel_rfl) (fun _ _ _ h => h) (Or.inl ⟨by kernel_rfl, fun w0 hSw => by (try dsimp only at hSw); go_simp⟩) (by assumption) ?_
        try simp only [Act.put]
        refine wpAnyH_take (i := 35) (v := (.pointer (some ⟨gk, idx * 2, none⟩))) rfl (by kernel_rfl) (by kernel_rfl) (by kernel_rfl) (fun _ _ _ h => h) (Or.inl ⟨by kernel_rfl, fun w0 hSw => by (try dsimp only at hSw); go_simp⟩) (by assumption) ?_
        try simp only [Act.put]
        refine wpAnyH_take (i := 36) (v := (.string key)) rfl (by kernel_rfl) (by kernel_rfl) (by kernel_rfl) (fun _ _ _ h => h) (Or.inl ⟨by kernel_rfl, fun w0 hSw => by (try dsimp only at hSw); go_simp⟩) (by assumption) ?_
        try simp only [Act.put]
        refine wpAnyH_ready (rs := [37]) (by kernel_rfl) (by simp) ?_
        refine AllReadyH.cons rfl (fun K hK => ?_) AllReadyH.nil
        go_simp
        (with_reducible refine (unhide HOF _ HRw.out).mono ?_)
        rintro e W3 ⟨v3, rfl, hr3, hb3⟩
        obtain ⟨A3, c3, rfl, hrd3, _⟩ := own_rd hr3
        go_wp2_with fail
        refine hK.out _ _ ⟨below_cell hb3 (kd z0), below_cell hb3 (kd z1), below_cell hb3 (kd z2)⟩ (fun hHeld => ?_)
        clear hK K
        try simp only [Act.put]
        refine wpAnyH_ready (rs := [38]) (by kernel_rfl) (by simp) ?_
        refine AllReadyH.cons rfl (fun K hK => ?_) AllReadyH.nil
        go_simp
        (with_reducible refine (same_true (HRq.out.keep hb3) hrd3 rfl rfl HQL.out).mono ?_)
        rintro e W4 ⟨rfl, m4, rfl⟩
        go_wp2_with fail
        refine hK.out _ _ ⟨kdn (below_cell hb3 (kd z0)), kdn (below_cell hb3 (kd z1)), kdn (below_cell hb3 (kd z2))⟩ (fun hHeld => ?_)
        clear hK K
        try simp only [Act.put]
        refine wpAnyH_take (i := 39) (v := (.bool false)) rfl (by kernel_rfl) (by kernel_rfl) (by kernel_rfl) (fun _ _ _ h => h) (Or.inl ⟨by kernel_rfl, fun w0 hSw => by (try dsimp only at hSw); go_simp⟩) (by assumption) ?_
        try simp only [Act.put]
        refine wpAnyH_take (i := 40) (v := (.bool false)) rfl (by kernel_rfl) (by kernel_rfl) (by kernel_rfl) (fun _ _ _ h => h) (Or.inl ⟨by kernel_rfl, fun w0 hSw => by (try dsimp only at hSw); go_simp⟩) (by assumption) ?_
        try simp only [Act.put]
        refine wpAnyH_done (by kernel_rfl) ?_ _
        clear hless n5 n6 n3 n4 h0
        go_simp
        have HBW := hide (p := Below w1.heap.size w1 (W3.drewN m4)) (below_drewN (hb.drew.trans (hb3.mono hb.size)) m4)
        have hmw : (W3.drewN m4).ownsRow w1.heap.size 29 9 u5 (back ((grp ps).drop (idx + 1))).length (cellsOf (back ((grp ps).drop (idx + 1)))) := own_keepsTy (p := fun _ => True) hm.out (KeepsTy.below (below_drewN ((Below.refl _ wr).drew.trans (hb3.mono (Nat.le_refl _))) m4)) trivial
        have hsrc := (own_keepsTy (p := fun _ => True) HENT.out.2.2.2 (KeepsTy.below HBW.out) trivial)
        obtain ⟨W, hW⟩ : ∃ W, W = W3.drewN m4 := ⟨_, rfl⟩
        rw [← hW] at HBW hmw hsrc ⊢
        have y1 : W.cell? ⟨gk, idx * 2 + 1, none⟩ = some (.slice (some ⟨g, 0, none⟩) (keyed key ps).length c') := below_cell HBW.out HX1.out
        have hnews : ∀ j u, (cellsOf (keyed key ps))[j]? = some u → W.cell? ((⟨g, 0, none⟩ : Addr).add j) = some u := hsrc.cells rfl
        have HNW := hide hnews
        have HCL := hide (cellsOf_length (keyed key ps))
        obtain ⟨M, hM⟩ : ∃ M, M = (back ((grp ps).drop (idx + 1))).length := ⟨_, rfl⟩
        have hM2 : M ≤ n := by rw [hM, ← HN.out]; exact back_drop_len ps _
        have hK2 : (keyed key ps).length ≤ n := by rw [← HN.out]; exact List.length_filter_le _ _
        rw [← hM] at hmw
        have HMM := hide hM
        have HBS : Hid (w1.heap.size ≤ W.heap.size) := HBW.out.size
        clear hM hW hb3 hr3 hrd3 hb z0 z1 hm hsrc hnews
        go_wp2_with (at_builtin; refine wpList_append_own _ rfl _ _ 22 rfl w1.heap.size 29 i0 zeroPane 9 80 Tryd.underlying22 hi hz0 hz1 hz2 rfl (by decide) _ _ _ rfl hmw ⟨g, 0, none⟩ (keyed key ps).length c' (cellsOf (keyed key ps)) rfl HCL.out HNW.out (cellsOf_one' _) (by unfold maxLen; omega) (by omega) HBS.out ?_; intro v' w5 hown' hgrow _)
        have HOW := hide (p := w5.ownsRow w1.heap.size 29 9 v' (back ((grp ps).drop idx)).length (cellsOf (back ((grp ps).drop idx)))) (by
          rw [HDR.out, List.length_append, cellsOf_append, ← HMM.out]
          exact hown')
        have HB5 := hide (p := Below w1.heap.size w1 w5) (HBW.out.grown hgrow HBW.out.size (fun r hr => (own_block hmw hr).1))
        clear hown' hgrow hmw y1
        go_roundw
        case rel => exact ⟨idx, by omega, by first | rfl | go_num, HB5.out, HOW⟩
        case measure => simp [intOf]
end Go.Proofs.YtciahchpdmajbaaDoor
