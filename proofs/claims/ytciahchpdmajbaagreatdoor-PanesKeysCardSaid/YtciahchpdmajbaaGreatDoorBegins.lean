/- Begins: the walk. -/
import Derived.Test.YtciahchpdmajbaaGreatDoorGRows
import Derived.Test.YtciahchpdmajbaaGreatDoorPart
import Derived.Test.YtciahchpdmajbaaGreatDoorSame
import Derived.Maps.OwnOps
namespace Go.Proofs.YtciahchpdmajbaaGreatDoor
open Go.RowKit
attribute [local go_sem ↓] Go.wp_at_zero Go.wp_at_succ

def BeginsDone (la lb : List Pn) (w : World) (e : Ending) (w' : World) : Prop := ∃ r, e = .returned (.bool r) ∧ (r = true ↔ ∀ k, keyed k la <+: keyed k lb) ∧ Below w.heap.size w w'

set_option maxHeartbeats 4000000 in
set_option maxRecDepth 100000 in
theorem begins_any (A1 : Option Addr) (n1 c1 : Nat) (la : List Pn) (A2 : Option Addr) (n2 c2 : Nat) (lb : List Pn) (w : World) (hn1 : la.length = n1) (hR1 : Rd w A1 la) (hn2 : lb.length = n2) (hR2 : Rd w A2 lb)
    (hl1 : n1 ≤ 10000) (hl2 : n2 ≤ 10000) (hs1 : ∀ p ∈ la, p.key.size ≤ maxLen) (hs2 : ∀ p ∈ lb, p.key.size ≤ maxLen) :
    Calls Tryz.prog 15 #[.slice A1 n1 c1, .slice A2 n2 c2] w (BeginsDone la lb w) := by
  obtain ⟨i0, hi, hz0, hz1, hz2⟩ := info_parts info_Pane
  have HR1 := hide hR1
  have HN1 := hide hn1
  have HR2 := hide hR2
  have HN2 := hide hn2
  have HS1 := hide hs1
  have HS2 := hide hs2
  have HGM := hide (GM.made w)
  clear hR1 hn1 hR2 hn2 hs1 hs2
  have hmm := @run_makeMap Tryz.prog
  go_enter Tryz.func15, Tryz.ntmps15
  go_wp2
  go_loopw [14] (fun i wr => ∃ (k : Nat) (f : ByteArray → Value), k ≤ n2 ∧ i = .int .i64 k ∧ Below w.heap.size w wr ∧ w.heap.size < wr.heap.size ∧ Hid (GM wr w.heap.size k f) ∧ Hid (GRows (w.heap.size + 1) wr f (lb.take k))) (fun i _ => n2 - (intOf i).toNat)
  case atStart => exact ⟨0, _, Nat.zero_le _, rfl, (Below.refl _ w).alloc (Nat.le_refl _) _, by simp, HGM, by show GRows _ _ _ []; exact GRows.nil _ _⟩
  case round =>
    clear HGM
    obtain ⟨k, f, hk, rfl, hb, hsz, hG, hRw⟩ := hrel
    by_cases hlt : k < n2
    · obtain ⟨b, o, hA, e0, e1, e2, e3, e4, e5, e6, e7, e8⟩ := (HR2.out.keep hb).at_ (i := k) (by rw [HN2.out]; exact hlt)
      obtain rfl := hA
      obtain ⟨p, hp⟩ : ∃ p, p = lb[k]'(by rw [HN2.out]; exact hlt) := ⟨_, rfl⟩
      rw [← hp] at e0 e1 e2 e3 e4 e5 e6 e7 e8
      have hps : p.key.size ≤ maxLen := HS2.out p (by rw [hp]; exact List.getElem_mem _)
      have HP := hide hp
      clear hp
      go_wp2_with fail
      have hx : (wr.alloc (.cells p.cells.toArray 40)).heap[wr.heap.size]? = some (.cells p.cells.toArray 40 (0, 0)) := heap_alloc_new wr _
      have hgm : GM (wr.alloc (.cells p.cells.toArray 40)) w.heap.size k f := hG.out.below ((Below.refl _ wr).alloc (Nat.le_refl _) _)
      have hrw : GRows (w.heap.size + 1) (wr.alloc (.cells p.cells.toArray 40)) f (lb.take k) := hRw.out.below ((Below.refl _ wr).alloc (Nat.le_refl _) _)
      have hfar : ∀ r, (f p.key).ownBlock = some r → r < wr.heap.size := fun r hr => Tr.lt_of_some (own_block (hRw.out.1 p.key) hr).2.choose_spec
      have hsW : (wr.alloc (.cells p.cells.toArray 40)).heap.size = wr.heap.size + 1 := by simp
      have hbW : Below w.heap.size w (wr.alloc (.cells p.cells.toArray 40)) := hb.alloc hb.size _
      obtain ⟨W, hW⟩ : ∃ W, W = wr.alloc (.cells p.cells.toArray 40) := ⟨_, rfl⟩
      (try rw [← hW])
      rw [← hW] at hx hgm hrw hsW hbW
      clear hW e0 e1 e2 e3 e4 e5 e6 e7 e8
      have e0 : W.cell? ⟨wr.heap.size, 0, none⟩ = some (.string p.key) := by rw [cell_of_row W _ _ _ _ (0, 0) hx]; rfl
      have e1 : W.cell? ⟨wr.heap.size, 1, none⟩ = some (.int .i64 p.s) := by rw [cell_of_row W _ _ _ _ (0, 0) hx]; rfl
      have e2 : W.cell? ⟨wr.heap.size, 2, none⟩ = some (.int .i64 p.e) := by rw [cell_of_row W _ _ _ _ (0, 0) hx]; rfl
      have e3 : W.cell? ⟨wr.heap.size, 3, none⟩ = some (.int .i64 p.kind) := by rw [cell_of_row W _ _ _ _ (0, 0) hx]; rfl
      have e4 : W.cell? ⟨wr.heap.size, 4, none⟩ = some (.int .i64 p.nth) := by rw [cell_of_row W _ _ _ _ (0, 0) hx]; rfl
      have e5 : W.cell? ⟨wr.heap.size, 5, none⟩ = some (.int .i64 p.count) := by rw [cell_of_row W _ _ _ _ (0, 0) hx]; rfl
      have e6 : W.cell? ⟨wr.heap.size, 6, none⟩ = some (.int .i64 p.sum) := by rw [cell_of_row W _ _ _ _ (0, 0) hx]; rfl
      have e7 : W.cell? ⟨wr.heap.size, 7, none⟩ = some (.int .i64 p.min) := by rw [cell_of_row W _ _ _ _ (0, 0) hx]; rfl
      have e8 : W.cell? ⟨wr.heap.size, 8, none⟩ = some (.int .i64 p.max) := by rw [cell_of_row W _ _ _ _ (0, 0) hx]; rfl
      obtain ⟨m, hm⟩ : ∃ m, m = (keyed p.key (lb.take k)).length := ⟨_, rfl⟩
      obtain ⟨xs, hxs⟩ : ∃ xs, xs = cellsOf (keyed p.key (lb.take k)) := ⟨_, rfl⟩
      have hmn : m ≤ k := by
        rw [hm]
        exact Nat.le_trans (List.length_filter_le _ _) (by rw [List.length_take]; omega)
      have hrow : W.ownsRow (w.heap.size + 1) 40 9 (f p.key) m xs := by rw [hm, hxs]; exact hrw.1 p.key
      obtain ⟨ov, hov⟩ : ∃ ov, ov = f p.key := ⟨_, rfl⟩
      rw [← hov] at hrow hfar
      have HL1 : (Instr.lookup 72 (.map (some w.heap.size)) (.string p.key) false).run Tryz.prog W.drew = .ok ov W.drew := by rw [hov]; exact GM.look (w := W.drew) hgm p.key hps
      have HL2 : ∀ o : Obj, (Instr.lookup 72 (.map (some w.heap.size)) (.string p.key) false).run Tryz.prog (W.alloc o).drew = .ok ov (W.alloc o).drew := fun o => by
        have h : GM (W.alloc o) w.heap.size k f := hgm.below ((Below.refl _ W).alloc (Nat.le_refl _) o)
        rw [hov]; exact GM.look (w := (W.alloc o).drew) h p.key hps
      have hnp : some wr.heap.size ≠ ov.ownBlock := fun e => absurd (hfar _ e.symm) (Nat.lt_irrefl _)
      have hmb : some w.heap.size ≠ ov.ownBlock := fun e => by have := (own_block hrow e.symm).1; omega
      have hm1 : m + 1 ≤ maxLen := by unfold maxLen; omega
      have hm2 : (m + 1) * 80 ≤ 140737488355328 := by omega
      have hbs : ∀ o : Obj, w.heap.size + 1 ≤ (W.alloc o).heap.size := fun o => by rw [World.size_alloc, hsW]; omega
      have HK := hide (p := ∀ (o : Obj) (w1 : World) (j : Nat) (u : Value), (W.alloc o).drew.grownBy w1 ov.ownBlock → W.cell? ⟨wr.heap.size, j, none⟩ = some u → w1.cell? ⟨wr.heap.size, j, none⟩ = some u) fun o w1 j u hg h => kfar hg (show wr.heap.size < (W.alloc o).heap.size by rw [World.size_alloc, hsW]; omega) hnp (kd (ka h))
      have HK2 := hide (p := ∀ (o : Obj) (w1 w2 : World) (j : Nat) (u : Value), (W.alloc o).drew.grownBy w1 ov.ownBlock → w1.grownBy w2 (some w.heap.size) → W.cell? ⟨wr.heap.size, j, none⟩ = some u → w2.cell? ⟨wr.heap.size, j, none⟩ = some u) fun o w1 w2 j u hg hg2 h => kfar hg2 (Nat.lt_of_lt_of_le (show wr.heap.size < (W.alloc o).heap.size by rw [World.size_alloc, hsW]; omega) hg.size) (fun e => by injection e with e; have e : wr.heap.size = w.heap.size := e; omega) (HK.out o w1 j u hg h)
      have HPUT := hide (p := ∀ (o : Obj) (w1 : World) (g cap : Nat), (W.alloc o).drew.grownBy w1 ov.ownBlock → ∃ w2, (Instr.mapUpdate 72 (.map (some w.heap.size)) (.string p.key) (.slice (some ⟨g, 0, none⟩) (m + 1) cap)).run Tryz.prog w1 = .ok () w2 ∧ GM w2 w.heap.size (k + 1) (upd f p.key (.slice (some ⟨g, 0, none⟩) (m + 1) cap)) ∧ w1.grownBy w2 (some w.heap.size)) fun o w1 g cap hg =>
        GM.put (GM.kept (w := (W.alloc o).drew) (hgm.below ((Below.refl _ W).alloc (Nat.le_refl _) o).drew) hg hmb) (by unfold maxLen; omega) p.key hps _
      have HHR := hide hrw
      have HHG := hide hgm
      have HF := hide hfar
      have HOV := hide hov
      have HM := hide hm
      have HXS := hide hxs
      clear hrw hgm hfar hov hm hxs hx
      go_region_held3 (fun w0 => w0.cell? ⟨wr.heap.size, 0, none⟩ = some (.string p.key) ∧ w0.cell? ⟨wr.heap.size, 1, none⟩ = some (.int .i64 p.s) ∧ w0.cell? ⟨wr.heap.size, 2, none⟩ = some (.int .i64 p.e) ∧ w0.cell? ⟨wr.heap.size, 3, none⟩ = some (.int .i64 p.kind) ∧ w0.cell? ⟨wr.heap.size, 4, none⟩ = some (.int .i64 p.nth) ∧ w0.cell? ⟨wr.heap.size, 5, none⟩ = some (.int .i64 p.count) ∧ w0.cell? ⟨wr.heap.size, 6, none⟩ = some (.int .i64 p.sum) ∧ w0.cell? ⟨wr.heap.size, 7, none⟩ = some (.int .i64 p.min) ∧ w0.cell? ⟨wr.heap.size, 8, none⟩ = some (.int .i64 p.max))
        (first | exact ⟨kd e0, kd e1, kd e2, kd e3, kd e4, kd e5, kd e6, kd e7, kd e8⟩ | exact ⟨kd (ka e0), kd (ka e1), kd (ka e2), kd (ka e3), kd (ka e4), kd (ka e5), kd (ka e6), kd (ka e7), kd (ka e8)⟩ | exact ⟨HK.out _ _ _ _ hgrow e0, HK.out _ _ _ _ hgrow e1, HK.out _ _ _ _ hgrow e2, HK.out _ _ _ _ hgrow e3, HK.out _ _ _ _ hgrow e4, HK.out _ _ _ _ hgrow e5, HK.out _ _ _ _ hgrow e6, HK.out _ _ _ _ hgrow e7, HK.out _ _ _ _ hgrow e8⟩ | exact ⟨HK2.out _ _ _ _ _ hgrow hgr2 e0, HK2.out _ _ _ _ _ hgrow hgr2 e1, HK2.out _ _ _ _ _ hgrow hgr2 e2, HK2.out _ _ _ _ _ hgrow hgr2 e3, HK2.out _ _ _ _ _ hgrow hgr2 e4, HK2.out _ _ _ _ _ hgrow hgr2 e5, HK2.out _ _ _ _ _ hgrow hgr2 e6, HK2.out _ _ _ _ _ hgrow hgr2 e7, HK2.out _ _ _ _ _ hgrow hgr2 e8⟩)
        ((refine step_append_lies _ (by rfl) _ _ _ (by rfl) (w.heap.size + 1) 40 i0 zeroPane 9 80 Tryz.underlying22 hi hz0 hz1 hz2 rfl (by decide) ov m xs (by rfl) ((hrow.alloc (.cells p.cells.toArray 40)).drew) ⟨wr.heap.size + 1, 0, none⟩ 1 1 p.cells (by rfl) (by rfl) (pn_news hsW p) (pn_one p) (by decide) hm1 hm2 (hbs _) (wr.heap.size + 1 + 1) (by simp [hsW]) ?_; intro g cap w1 hown1 hgrow hat hlt'; obtain ⟨w2, hrun, hgm2, hgr2⟩ := HPUT.out _ _ g cap hgrow))
      all_goals
        have b0 : Below w.heap.size w (W.alloc (.cells p.cells.toArray 40)).drew := (hbW.alloc hbW.size _).drew
        have b1 := b0.grown hgrow (Nat.le_of_succ_le (hbs _)) (fun r hr => Nat.le_of_succ_le (own_block (hrow.alloc (.cells p.cells.toArray 40)).drew hr).1)
        have hb2 : Below w.heap.size w w2 := b1.grown hgr2 b1.size (fun r hr => by injection hr with hr; omega)
        have hs2 : w.heap.size < w2.heap.size := Nat.lt_of_lt_of_le (Nat.lt_of_lt_of_le (Nat.lt_of_succ_le (hbs _)) hgrow.size) hgr2.size
        have HG2 := hide hgm2
        have hfin : Hid (GRows (w.heap.size + 1) w2 (upd f p.key (.slice (some ⟨g, 0, none⟩) (m + 1) cap)) (lb.take (k + 1))) := by
          rw [take_snoc lb k (by rw [HN2.out]; exact hlt), ← HP.out]
          have a1 := HM.out
          have a2 := HXS.out
          have a3 := HOV.out
          have h0 : GRows (w.heap.size + 1) (W.alloc (.cells p.cells.toArray 40)).drew f (lb.take k) := HHR.out.below ((Below.refl _ W).alloc (Nat.le_refl _) _).drew
          subst a1 a2 a3
          exact GRows.put h0 (Nat.lt_succ_self _) hown1 hgrow (hat.imp id fun e => by rw [e]; show (W.alloc _).heap.size ≤ _; rw [World.size_alloc, hsW]; omega) hgr2
        clear hown1 hgrow hat hgm2 hgr2 hrun
        go_wp2_with fail
        go_roundw
        case rel => exact ⟨k + 1, _, by omega, by go_num, hb2, hs2, HG2, hfin⟩
        case measure => simp [intOf]; omega
    · have hRf : Hid (GRows (w.heap.size + 1) wr f lb) := by
        have h := hRw.out
        rwa [List.take_of_length_le (by rw [HN2.out]; omega)] at h
      obtain ⟨d, hd⟩ : ∃ d, d = k := ⟨_, rfl⟩
      have HG := hide (GM.mono hG.out (show k ≤ 10000 by omega))
      have HRe := hide (p := Rest wr f [] lb) hRf.out.rest
      clear hRw hG hRf
      go_wp2_with fail
      go_loopw [31] (fun i w2 => ∃ (k2 : Nat) (f2 : ByteArray → Value), k2 ≤ n1 ∧ i = .int .i64 k2 ∧ Below w.heap.size w w2 ∧ w.heap.size < w2.heap.size ∧ Hid (GM w2 w.heap.size (10000 + k2) f2) ∧ Hid (Rest w2 f2 (la.take k2) lb)) (fun i _ => n1 - (intOf i).toNat)
      case atStart => exact ⟨0, f, Nat.zero_le _, rfl, hb, hsz, HG, by show Rest _ _ [] _; exact HRe.out⟩
      case round =>
        clear HG HRe hb hsz hlt hd d
        obtain ⟨k, f, hk, rfl, hb, hsz, hG, hRe⟩ := hrel
        by_cases hlt : k < n1
        · obtain ⟨b, o, hA, e0, e1, e2, e3, e4, e5, e6, e7, e8⟩ := (HR1.out.keep hb).at_ (i := k) (by rw [HN1.out]; exact hlt)
          obtain rfl := hA
          obtain ⟨p, hp⟩ : ∃ p, p = la[k]'(by rw [HN1.out]; exact hlt) := ⟨_, rfl⟩
          rw [← hp] at e0 e1 e2 e3 e4 e5 e6 e7 e8
          have hps : p.key.size ≤ maxLen := HS1.out p (by rw [hp]; exact List.getElem_mem _)
          have HP := hide hp
          clear hp
          have HL := hide (p := ∀ o : Obj, (Instr.lookup 72 (.map (some w.heap.size)) (.string p.key) false).run Tryz.prog (wr.alloc o) = .ok (f p.key) (wr.alloc o)) fun o => GM.look (hG.out.below ((Below.refl _ wr).alloc (Nat.le_refl _) o)) p.key hps
          obtain ⟨A, c, rs, hf, hrd, hkey, hcap⟩ := hRe.out p.key
          obtain ⟨n, hn⟩ : ∃ n, rs.length = n := ⟨_, rfl⟩
          rw [hn] at hf hcap
          rw [hf] at HL
          have hL := HL.out
          clear HL
          have HF := hide hf
          have HRD := hide hrd
          have HKEY := hide hkey
          clear hf hrd hkey
          go_wp2_with fail
          have hx : (wr.alloc (.cells p.cells.toArray 40)).heap[wr.heap.size]? = some (.cells p.cells.toArray 40 (0, 0)) := heap_alloc_new wr _
          have hbW : Below w.heap.size w (wr.alloc (.cells p.cells.toArray 40)) := hb.alloc hb.size _
          have hbx : Below wr.heap.size wr (wr.alloc (.cells p.cells.toArray 40)) := (Below.refl _ wr).alloc (Nat.le_refl _) _
          obtain ⟨W, hW⟩ : ∃ W, W = wr.alloc (.cells p.cells.toArray 40) := ⟨_, rfl⟩
          (try rw [← hW])
          rw [← hW] at hx hbW hbx
          have HBX := hide hbx
          have HBW := hide hbW
          have HX := hide hx
          rcases Nat.eq_zero_or_pos n with rfl | hpos
          · clear hW e0 e1 e2 e3 e4 e5 e6 e7 e8 hbW hbx hx
            have hbad : Hid (¬ ∀ k, keyed k la <+: keyed k lb) := fun h => by
              have h1 := h p.key
              have h2 : rs = [] := List.length_eq_zero_iff.1 hn
              rw [HKEY.out, h2, List.append_nil] at h1
              have h3 := h1.length_le
              have h4 := keyed_snoc p.key (la.take k) p
              rw [if_pos rfl] at h4
              have h5 : (keyed p.key (la.take (k + 1))).length ≤ (keyed p.key la).length := ((List.take_sublist _ _).filter _).length_le
              rw [take_snoc la k (by rw [HN1.out]; exact hlt), ← HP.out, h4] at h5
              simp at h5
              omega
            go_wp2_with fail
            go_quiet (fail)
            go_wp2_with fail
            go_ret
            exact ⟨false, rfl, ⟨fun h => (by cases h), fun h => absurd h hbad.out⟩, below_drewN HBW.out _⟩
          · obtain ⟨q, rt, rfl⟩ : ∃ q rt, rs = q :: rt := by
              cases rs with
              | nil => simp at hn; omega
              | cons q rt => exact ⟨q, rt, rfl⟩
            obtain ⟨b', o', hA', g0, g1, g2, g3, g4, g5, g6, g7, g8⟩ := HRD.out.at_ (i := 0) (by simp)
            obtain rfl := hA'
            have f0 : W.cell? ⟨b', o', none⟩ = some (.string q.key) := by rw [hW]; exact ka (by simpa using g0)
            have f1 : W.cell? ⟨b', o' + 1, none⟩ = some (.int .i64 q.s) := by rw [hW]; exact ka (by simpa using g1)
            have f2 : W.cell? ⟨b', o' + 2, none⟩ = some (.int .i64 q.e) := by rw [hW]; exact ka (by simpa using g2)
            have f3 : W.cell? ⟨b', o' + 3, none⟩ = some (.int .i64 q.kind) := by rw [hW]; exact ka (by simpa using g3)
            have f4 : W.cell? ⟨b', o' + 4, none⟩ = some (.int .i64 q.nth) := by rw [hW]; exact ka (by simpa using g4)
            have f5 : W.cell? ⟨b', o' + 5, none⟩ = some (.int .i64 q.count) := by rw [hW]; exact ka (by simpa using g5)
            have f6 : W.cell? ⟨b', o' + 6, none⟩ = some (.int .i64 q.sum) := by rw [hW]; exact ka (by simpa using g6)
            have f7 : W.cell? ⟨b', o' + 7, none⟩ = some (.int .i64 q.min) := by rw [hW]; exact ka (by simpa using g7)
            have f8 : W.cell? ⟨b', o' + 8, none⟩ = some (.int .i64 q.max) := by rw [hW]; exact ka (by simpa using g8)
            clear e0 e1 e2 e3 e4 e5 e6 e7 e8
            have e0 : W.cell? ⟨wr.heap.size, 0, none⟩ = some (.string p.key) := by rw [cell_of_row W _ _ _ _ (0, 0) hx]; rfl
            have e1 : W.cell? ⟨wr.heap.size, 1, none⟩ = some (.int .i64 p.s) := by rw [cell_of_row W _ _ _ _ (0, 0) hx]; rfl
            have e2 : W.cell? ⟨wr.heap.size, 2, none⟩ = some (.int .i64 p.e) := by rw [cell_of_row W _ _ _ _ (0, 0) hx]; rfl
            have e3 : W.cell? ⟨wr.heap.size, 3, none⟩ = some (.int .i64 p.kind) := by rw [cell_of_row W _ _ _ _ (0, 0) hx]; rfl
            have e4 : W.cell? ⟨wr.heap.size, 4, none⟩ = some (.int .i64 p.nth) := by rw [cell_of_row W _ _ _ _ (0, 0) hx]; rfl
            have e5 : W.cell? ⟨wr.heap.size, 5, none⟩ = some (.int .i64 p.count) := by rw [cell_of_row W _ _ _ _ (0, 0) hx]; rfl
            have e6 : W.cell? ⟨wr.heap.size, 6, none⟩ = some (.int .i64 p.sum) := by rw [cell_of_row W _ _ _ _ (0, 0) hx]; rfl
            have e7 : W.cell? ⟨wr.heap.size, 7, none⟩ = some (.int .i64 p.min) := by rw [cell_of_row W _ _ _ _ (0, 0) hx]; rfl
            have e8 : W.cell? ⟨wr.heap.size, 8, none⟩ = some (.int .i64 p.max) := by rw [cell_of_row W _ _ _ _ (0, 0) hx]; rfl
            clear hW g0 g1 g2 g3 g4 g5 g6 g7 g8
            have t1 : ((n : Int) == 0) = false := by simp; omega
            have b1 : (0 : Int) < (n : Int) := by omega
            have b2 : (1 : Int) ≤ (n : Int) := by omega
            have b3 : (n : Int) ≤ (c : Int) := by omega
            have b4 : (1 : Int) ≤ (c : Int) := by omega
            by_cases hpq : q = p
            · have hne : ∀ w : World, (binOp .neq 40 q.val p.val).run Tryz.prog w = .ok (.bool false) w := fun w => by rw [pn_neq]; simp [hpq]
              have HPQ := hide hpq
              clear hpq
              go_wp2_with fail
              go_quiet (fail)
              go_wp2_with fail
              obtain ⟨V, hV⟩ : ∃ V, V = W.drewN nq := ⟨_, rfl⟩
              rw [← hV]
              have e0 : V.cell? ⟨wr.heap.size, 0, none⟩ = some (.string p.key) := by rw [hV]; exact e0
              have hBV : Below W.heap.size W V := by rw [hV]; exact below_drewN (Below.refl _ _) _
              have hGV : GM V w.heap.size (10000 + k) f := (hG.out.below HBX.out).below hBV
              have hput : ∀ v : Value, ∃ w2, (Instr.mapUpdate 72 (.map (some w.heap.size)) (.string p.key) v).run Tryz.prog V.drew = .ok () w2 ∧ GM w2 w.heap.size (10000 + k + 1) (upd f p.key v) ∧ V.drew.grownBy w2 (some w.heap.size) := fun v => GM.put (w := V.drew) hGV (by unfold maxLen; omega) p.key hps v
              obtain ⟨X, hX⟩ : ∃ X : Value → World, ∀ v, (Instr.mapUpdate 72 (.map (some w.heap.size)) (.string p.key) v).run Tryz.prog V.drew = .ok () (X v) ∧ GM (X v) w.heap.size (10000 + k + 1) (upd f p.key v) ∧ V.drew.grownBy (X v) (some w.heap.size) := ⟨fun v => (hput v).choose, fun v => (hput v).choose_spec⟩
              have hrun : ∀ v, (Instr.mapUpdate 72 (.map (some w.heap.size)) (.string p.key) v).run Tryz.prog V.drew = .ok () (X v) := fun v => (hX v).1
              have HGX := hide fun v => (hX v).2.1
              have HKX := hide fun v => (hX v).2.2
              have HXc := hide (p := ∀ v u, V.cell? ⟨wr.heap.size, 0, none⟩ = some u → (X v).cell? ⟨wr.heap.size, 0, none⟩ = some u) fun v u h => kfar (hX v).2.2 (World.block_lt_of_cell? V _ h) (fun e => by injection e with e; have e : wr.heap.size = w.heap.size := e; omega) (kd h)
              have HBV := hide hBV
              have HGV := hide hGV
              clear hput hX hV hBV hGV
              go_region_held3 (fun w0 => w0.cell? ⟨wr.heap.size, 0, none⟩ = some (.string p.key)) (first | exact kd e0 | exact HXc.out _ _ e0) (fail)
              have HRX := hide (p := ∀ A', (0 < n - 1 → A' = some ⟨b', o' + 9, none⟩) → Rest (X (.slice A' (n - 1) (c - 1))) (upd f p.key (.slice A' (n - 1) (c - 1))) (la.take (k + 1)) lb) fun A' hA' => by
                rw [take_snoc la k (by rw [HN1.out]; exact hlt), ← HP.out]
                have h9 := HKEY.out
                rw [HPQ.out] at h9
                exact Rest.step (W := V.drew) (((hRe.out.below HBX.out).below HBV.out.drew)) (HKX.out _) (fun o => HGV.out.none o) (rs := rt) (p := p) (by have := HRD.out; rw [HPQ.out] at this; exact (this.keep HBX.out).keep HBV.out.drew) h9 (by simp at hn; omega) (by omega) A' hA'
              have HBF := hide (p := ∀ v, Below w.heap.size w (X v) ∧ w.heap.size < (X v).heap.size) fun v => by
                have h1 : Below w.heap.size w V := HBW.out.trans (HBV.out.mono HBW.out.size)
                have h2 := (h1.drew).grown (HKX.out v) h1.size (fun r hr => by injection hr with hr; omega)
                exact ⟨h2, Nat.lt_of_lt_of_le (Nat.lt_of_lt_of_le hsz (Nat.le_trans HBX.out.size HBV.out.size)) (HKX.out v).size⟩
              go_wp2_with fail
              go_roundw
              case rel => exact ⟨k + 1, _, by omega, by go_num, (HBF.out _).1, (HBF.out _).2, HGX.out _, HRX.out _ (fun h => by rw [if_neg (by omega)])⟩
              case measure => simp [intOf]; omega
            · have hne : ∀ w : World, (binOp .neq 40 q.val p.val).run Tryz.prog w = .ok (.bool true) w := fun w => by rw [pn_neq]; simp [hpq]
              have hbad : Hid (¬ ∀ k, keyed k la <+: keyed k lb) := fun h => by
                have h1 := h p.key
                rw [HKEY.out] at h1
                have h4 := keyed_snoc p.key (la.take k) p
                rw [if_pos rfl, HP.out, ← take_snoc la k (by rw [HN1.out]; exact hlt), ← HP.out] at h4
                obtain ⟨t, h5⟩ := h1
                have h6 : keyed p.key la = keyed p.key (la.take (k + 1)) ++ keyed p.key (la.drop (k + 1)) := by rw [← List.filter_append, List.take_append_drop]
                rw [h6, h4, List.append_assoc, List.append_assoc] at h5
                have h7 := List.append_cancel_left h5
                simp at h7
                exact hpq h7.1.symm
              clear hpq
              go_wp2_with fail
              go_quiet (fail)
              go_wp2_with fail
              go_ret
              exact ⟨false, rfl, ⟨fun h => (by cases h), fun h => absurd h hbad.out⟩, below_drewN HBW.out _⟩
        · have hok : Hid (∀ k, keyed k la <+: keyed k lb) := fun j => by
            obtain ⟨A, c, rs, _, _, h, _⟩ := hRe.out j
            rw [List.take_of_length_le (by rw [HN1.out]; omega)] at h
            exact ⟨rs, h.symm⟩
          go_wp2_with fail
          go_ret
          exact ⟨true, rfl, ⟨fun _ => hok.out, fun _ => rfl⟩, hb⟩
end Go.Proofs.YtciahchpdmajbaaGreatDoor
