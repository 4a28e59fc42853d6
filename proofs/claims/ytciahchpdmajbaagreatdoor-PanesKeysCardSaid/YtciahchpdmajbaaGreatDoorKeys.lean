/- Keys: the walk. -/
import Derived.Test.YtciahchpdmajbaaGreatDoorRound
import Derived.Shelf.Abstract
namespace Go.Proofs.YtciahchpdmajbaaGreatDoor
open Go.RowKit
attribute [local go_sem ↓] Go.wp_at_zero Go.wp_at_succ
attribute [local go_sem] Oper.semAt_some

theorem boxes_at (wr : World) (o : Obj) (mb : Nat) : (boxes1 (wr.alloc o) mb).heap[wr.heap.size]? = some o ∧ (boxes1 (wr.alloc o) mb).heap[wr.heap.size + 1]? = some (.cells #[.pointer (some ⟨mb, 0, none⟩)] 46 (0, 0)) ∧
    (boxes1 (wr.alloc o) mb).heap[wr.heap.size + 1 + 1]? = some (.cells #[.bool false] 4 (0, 0)) ∧ (boxes1 (wr.alloc o) mb).heap[wr.heap.size + 1 + 1 + 1]? = some (.cells #[.func (.func 46) #[] #[]] 96 (0, 0)) := by
  have n1 : ∀ (w : World) (o : Obj) (s : Nat), w.heap.size = s → (w.alloc o).heap[s]? = some o := fun w o s h => by subst h; exact heap_alloc_new w o
  refine ⟨?_, ?_, ?_, ?_⟩
  · exact (Below.heap_alloc _ _ _ (by simp; omega)).trans ((Below.heap_alloc _ _ _ (by simp; omega)).trans ((Below.heap_alloc _ _ _ (by simp)).trans (heap_alloc_new wr o)))
  · exact (Below.heap_alloc _ _ _ (by simp)).trans ((Below.heap_alloc _ _ _ (by simp)).trans (n1 _ _ _ (by simp)))
  · exact (Below.heap_alloc _ _ _ (by simp)).trans (n1 _ _ _ (by simp))
  · exact n1 _ _ _ (by simp)

set_option maxHeartbeats 4000000 in
set_option maxRecDepth 100000 in
theorem keys_sep (A : Option Addr) (n c : Nat) (ps : List Pn) (w : World) (hn : ps.length = n) (hR : Rd w A ps) (hlen : n ≤ 10000) :
    Calls Tryz.prog 6 #[.slice A n c] w (KeysSep ps w) := by
  obtain ⟨i0, hi, hz0, hz1, hz2⟩ := info_parts info_Pane
  have HR := hide hR
  have HN := hide hn
  clear hR hn
  refine callsIn_wide.1 (callsIn_of_wp_marks (n := 60) Tryz.func6 rfl trivial ?_ rfl)
  simp only [Tryz.ntmps6, List.size_toArray, List.length_cons, List.length_nil, Nat.reduceAdd, Nat.reduceSub, Array.replicate_succ, Array.replicate_zero, List.push_toArray, List.append_toArray, List.nil_append, List.cons_append]
  have HO := hide (Of1_any w)
  gi_wp2_with (refine ⟨trivial, ?_⟩; gi_at_call 21; (refine (callsIn_wide.2 (unhide HO)).mono ?_); rintro e w1 ⟨rfl, rfl⟩)
  clear HO
  refine wpIn_wide.2 ?_
  have hH0 : Hid (Held w.heap.size (w.alloc (.cells #[.func (.func 29) #[] #[], .pointer none] 91)) Tr.nil []) :=
    ⟨heap_alloc_new w _, trivial, .nil, (fun _ h => by cases h), trivial⟩
  go_loopw [14] (fun i wr => ∃ (k : Nat) (t : Tr ByteArray Sl), k ≤ n ∧ i = .int .i64 k ∧ Below w.heap.size w wr ∧ w.heap.size < wr.heap.size ∧ Hid (Held w.heap.size wr t (ps.take k))) (fun i _ => n - (intOf i).toNat)
  case atStart => exact ⟨0, .nil, Nat.zero_le _, rfl, (Below.refl _ w).alloc (Nat.le_refl _) _, by simp, hH0⟩
  case round =>
    clear hH0
    obtain ⟨k, t, hk, rfl, hb, hsz, hH⟩ := hrel
    by_cases hlt : k < n
    · obtain ⟨b, o, hA, e0, e1, e2, e3, e4, e5, e6, e7, e8⟩ := (HR.out.keep hb).at_ (i := k) (by rw [HN.out]; exact hlt)
      obtain rfl := hA
      obtain ⟨p, hp⟩ : ∃ p, p = ps[k]'(by rw [HN.out]; exact hlt) := ⟨_, rfl⟩
      rw [← hp] at e0 e1 e2 e3 e4 e5 e6 e7 e8
      have HP := hide hp
      clear hp
      have hHb := Held.below hH.out ((Below.refl _ wr).alloc (Nat.le_refl _) (.cells p.cells.toArray 40))
      obtain ⟨A', c', ok, hget, hrow, hcall⟩ := get1_held hH.out ((Below.refl _ wr).alloc (Nat.le_refl _) (.cells p.cells.toArray 40)) p.key
      obtain ⟨m, hm⟩ : ∃ m, m = (keyed p.key (ps.take k)).length := ⟨_, rfl⟩
      obtain ⟨xs, hxs⟩ : ∃ xs, xs = cellsOf (keyed p.key (ps.take k)) := ⟨_, rfl⟩
      have hmn : m ≤ k := by
        rw [hm]
        exact Nat.le_trans (List.length_filter_le _ _) (by rw [List.length_take]; omega)
      rw [← hm] at hget hrow hcall
      rw [← hxs] at hrow
      have HG := hide hcall
      have HB := hide hHb
      have HQ := hide hget
      have HM := hide hm
      have HXS := hide hxs
      have hbox : (wr.alloc (.cells p.cells.toArray 40)).heap[wr.heap.size]? = some (.cells p.cells.toArray 40 (0, 0)) := heap_alloc_new wr _
      have HX := hide hbox
      have HR1 := hide (hrow.alloc (.cells p.cells.toArray 40))
      have HF := hide (p := ∀ r, (Value.slice A' m c').ownBlock = some r → r < wr.heap.size) fun r hr => Tr.lt_of_some (own_block hrow hr).2.choose_spec
      have HT := hide (Nat.le_trans (Held.many hH.out) (by rw [List.length_take]; omega) : t.many ≤ 10000)
      clear hcall hHb hget hm hxs hbox hrow hH
      go_wp2_with (go_at_call 22; (with_reducible refine (unhide HG).mono ?_); rintro e w1 ⟨rfl, j, rfl⟩)
      clear HG e0 e1 e2 e3 e4 e5 e6 e7 e8
      obtain ⟨W, hW⟩ : ∃ W, W = (wr.alloc (.cells p.cells.toArray 40)).drewN j := ⟨_, rfl⟩
      rw [← hW]
      have hx : W.heap[wr.heap.size]? = some (.cells p.cells.toArray 40 (0, 0)) := by rw [hW]; exact HX.out
      have e0 : W.cell? ⟨wr.heap.size, 0, none⟩ = some (.string p.key) := by rw [cell_of_row W _ _ _ _ (0, 0) hx]; rfl
      have e1 : W.cell? ⟨wr.heap.size, 1, none⟩ = some (.int .i64 p.s) := by rw [cell_of_row W _ _ _ _ (0, 0) hx]; rfl
      have e2 : W.cell? ⟨wr.heap.size, 2, none⟩ = some (.int .i64 p.e) := by rw [cell_of_row W _ _ _ _ (0, 0) hx]; rfl
      have e3 : W.cell? ⟨wr.heap.size, 3, none⟩ = some (.int .i64 p.kind) := by rw [cell_of_row W _ _ _ _ (0, 0) hx]; rfl
      have e4 : W.cell? ⟨wr.heap.size, 4, none⟩ = some (.int .i64 p.nth) := by rw [cell_of_row W _ _ _ _ (0, 0) hx]; rfl
      have e5 : W.cell? ⟨wr.heap.size, 5, none⟩ = some (.int .i64 p.count) := by rw [cell_of_row W _ _ _ _ (0, 0) hx]; rfl
      have e6 : W.cell? ⟨wr.heap.size, 6, none⟩ = some (.int .i64 p.sum) := by rw [cell_of_row W _ _ _ _ (0, 0) hx]; rfl
      have e7 : W.cell? ⟨wr.heap.size, 7, none⟩ = some (.int .i64 p.min) := by rw [cell_of_row W _ _ _ _ (0, 0) hx]; rfl
      have e8 : W.cell? ⟨wr.heap.size, 8, none⟩ = some (.int .i64 p.max) := by rw [cell_of_row W _ _ _ _ (0, 0) hx]; rfl
      have hrow : W.ownsRow (w.heap.size + 1) 40 9 (.slice A' m c') m xs := by rw [hW]; exact HR1.out
      have HHW : Hid (Held w.heap.size W t (ps.take k)) := by rw [hW]; exact HB.out.below (below_drewN (Below.refl _ _) _)
      have hsW : W.heap.size = wr.heap.size + 1 := by rw [hW]; simp
      have hWb := hide hW
      clear hW HX HB HR1 hx
      obtain ⟨ov, hov⟩ : ∃ ov, ov = Value.slice A' m c' := ⟨_, rfl⟩
      rw [← hov] at hrow HF ⊢
      have HOV := hide hov
      clear hov
      have hlp : (⟨wr.heap.size, 0, none⟩ : Addr).block < W.heap.size := by rw [hsW]; exact Nat.lt_succ_self _
      have hnp : some wr.heap.size ≠ ov.ownBlock := fun e => absurd (HF.out _ e.symm) (Nat.lt_irrefl _)
      have hm1 : m + 1 ≤ maxLen := by unfold maxLen; omega
      have hm2 : (m + 1) * 80 ≤ 140737488355328 := by omega
      have hbs : ∀ o : Obj, w.heap.size + 1 ≤ (W.alloc o).heap.size := fun o => by rw [World.size_alloc, hsW]; omega
      have hin : ∀ (o : Obj) (w1 : World), (W.alloc o).drew.grownBy w1 ov.ownBlock → In1 w1 t := fun o w1 hg => in_append (hrow.alloc o).drew hg (by decide) (HHW.out.2.1.alloc o).drew
      have hmp : ∀ (o : Obj) (w1 : World), (W.alloc o).drew.grownBy w1 ov.ownBlock → MapIs1 w1 w.heap.size t := fun o w1 hg => (own_below (hrow.alloc o).drew hg (Nat.lt_succ_self _) (hbs o)).trans ((Below.heap_alloc W o _ (Tr.lt_of_some HHW.out.1)).trans HHW.out.1)
      have hk : ∀ (o : Obj) (w1 : World) (j : Nat) (u : Value), (W.alloc o).drew.grownBy w1 ov.ownBlock → W.cell? ⟨wr.heap.size, j, none⟩ = some u → w1.cell? ⟨wr.heap.size, j, none⟩ = some u := fun o w1 j u hg h => kfar hg (Nat.lt_of_lt_of_le hlp (show W.heap.size ≤ (W.alloc o).heap.size by rw [World.size_alloc]; omega)) hnp (kd (ka h))
      have HK := hide hk
      have HZ := hide (p := ∀ (o : Obj) (w1 : World), (W.alloc o).drew.grownBy w1 ov.ownBlock → wr.heap.size < w1.heap.size) fun o w1 hg => Nat.lt_of_lt_of_le (show wr.heap.size < (W.alloc o).heap.size by rw [World.size_alloc, hsW]; omega) hg.size
      have HNE : some wr.heap.size ≠ some w.heap.size := fun e => by injection e with e; omega
      have HIN := hide hin
      have HMP := hide hmp
      clear hk hin hmp
      go_region_held3 (fun w0 => w0.cell? ⟨wr.heap.size, 0, none⟩ = some (.string p.key) ∧ w0.cell? ⟨wr.heap.size, 1, none⟩ = some (.int .i64 p.s) ∧ w0.cell? ⟨wr.heap.size, 2, none⟩ = some (.int .i64 p.e) ∧ w0.cell? ⟨wr.heap.size, 3, none⟩ = some (.int .i64 p.kind) ∧ w0.cell? ⟨wr.heap.size, 4, none⟩ = some (.int .i64 p.nth) ∧ w0.cell? ⟨wr.heap.size, 5, none⟩ = some (.int .i64 p.count) ∧ w0.cell? ⟨wr.heap.size, 6, none⟩ = some (.int .i64 p.sum) ∧ w0.cell? ⟨wr.heap.size, 7, none⟩ = some (.int .i64 p.min) ∧ w0.cell? ⟨wr.heap.size, 8, none⟩ = some (.int .i64 p.max))
        (first | exact ⟨kd e0, kd e1, kd e2, kd e3, kd e4, kd e5, kd e6, kd e7, kd e8⟩ | exact ⟨kd (ka e0), kd (ka e1), kd (ka e2), kd (ka e3), kd (ka e4), kd (ka e5), kd (ka e6), kd (ka e7), kd (ka e8)⟩ | exact ⟨HK.out _ _ _ _ hgrow e0, HK.out _ _ _ _ hgrow e1, HK.out _ _ _ _ hgrow e2, HK.out _ _ _ _ hgrow e3, HK.out _ _ _ _ hgrow e4, HK.out _ _ _ _ hgrow e5, HK.out _ _ _ _ hgrow e6, HK.out _ _ _ _ hgrow e7, HK.out _ _ _ _ hgrow e8⟩ | exact ⟨(ho2.cell_far _ (HZ.out _ _ hgrow) HNE).trans (HK.out _ _ _ _ hgrow e0), (ho2.cell_far _ (HZ.out _ _ hgrow) HNE).trans (HK.out _ _ _ _ hgrow e1), (ho2.cell_far _ (HZ.out _ _ hgrow) HNE).trans (HK.out _ _ _ _ hgrow e2), (ho2.cell_far _ (HZ.out _ _ hgrow) HNE).trans (HK.out _ _ _ _ hgrow e3), (ho2.cell_far _ (HZ.out _ _ hgrow) HNE).trans (HK.out _ _ _ _ hgrow e4), (ho2.cell_far _ (HZ.out _ _ hgrow) HNE).trans (HK.out _ _ _ _ hgrow e5), (ho2.cell_far _ (HZ.out _ _ hgrow) HNE).trans (HK.out _ _ _ _ hgrow e6), (ho2.cell_far _ (HZ.out _ _ hgrow) HNE).trans (HK.out _ _ _ _ hgrow e7), (ho2.cell_far _ (HZ.out _ _ hgrow) HNE).trans (HK.out _ _ _ _ hgrow e8)⟩ | (trace_state; fail))
        (first | (refine step_append_lies _ (by rfl) _ _ _ (by rfl) (w.heap.size + 1) 40 i0 zeroPane 9 80 Tryz.underlying22 hi hz0 hz1 hz2 rfl (by decide) ov m xs (by rfl) ((hrow.alloc (.cells p.cells.toArray 40)).drew) ⟨wr.heap.size + 1, 0, none⟩ 1 1 p.cells (by rfl) (by rfl) (pn_news hsW p) (pn_one p) (by decide) hm1 hm2 (hbs _) (wr.heap.size + 1 + 1) (by simp [hsW]) ?_; intro g cap w1 hown1 hgrow hat hlt') | (go_at_call 23; (with_reducible refine (Put1_any p.key (some ⟨g, 0, none⟩) (m + 1) cap w.heap.size t _ (HIN.out _ _ hgrow) (HMP.out _ _ hgrow) HT.out).mono ?_); rintro e w2 ⟨rfl, t', hm2', hi2, hx2, ho2⟩))
      have hb2 : Below w.heap.size w w2 := by
        have b0 : Below w.heap.size w (W.alloc (.cells p.cells.toArray 40)).drew := ((by rw [hWb.out]; exact below_drewN (hb.alloc hb.size _) _ : Below w.heap.size w W).alloc (by omega) _).drew
        have b1 := b0.grown hgrow (show w.heap.size ≤ (W.alloc _).heap.size from Nat.le_of_succ_le (hbs _)) (fun r hr => Nat.le_of_succ_le (own_block (hrow.alloc (.cells p.cells.toArray 40)).drew hr).1)
        exact b1.grown ho2 b1.size (fun r hr => by injection hr with hr; omega)
      have hs2 : w.heap.size < w2.heap.size := Nat.lt_of_lt_of_le (Nat.lt_of_lt_of_le hsz (Nat.le_of_lt (HZ.out _ _ hgrow))) ho2.size
      have hfin : Hid (Held w.heap.size w2 t' (ps.take (k + 1))) := by
        rw [take_snoc ps k (by rw [HN.out]; exact hlt), ← HP.out]
        have a1 := HM.out
        have a2 := HXS.out
        have a3 := HOV.out
        have a4 := HQ.out
        have h0 : Held w.heap.size (W.alloc (.cells p.cells.toArray 40)).drew t (ps.take k) := HHW.out.below ((Below.refl _ W).alloc (Nat.le_refl _) _).drew
        have r0 := (hrow.alloc (.cells p.cells.toArray 40)).drew
        subst a1 a2 a3
        exact Held.put h0 a4 r0 hown1 hgrow (hat.imp id fun e => by rw [e]; show (W.alloc _).heap.size ≤ _; rw [World.size_alloc, hsW]; omega) ho2 hm2' hi2 hx2
      clear hown1 hgrow hat ho2 hm2' hi2 hx2
      go_wp2_with fail
      go_roundw
      case rel => exact ⟨k + 1, t', by omega, by go_num, hb2, hs2, hfin⟩
      case measure => simp [intOf]; omega
    · have hHH : Hid (Held w.heap.size wr t ps) := by
        have h := hH.out
        rwa [List.take_of_length_le (by rw [HN.out]; omega)] at h
      clear hH
      have hmany := hide (Nat.le_trans (Held.many hHH.out) (by rw [HN.out]; exact hlen) : t.many ≤ 10000)
      clear hk
      go_wp2_with fail
      gi_wp2_with (refine ⟨trivial, ?_⟩; gi_at_call 24; (refine (callsIn_wide.2 (All1_any w.heap.size _)).mono ?_); rintro e w1 ⟨rfl, rfl⟩)
      have hm0 : MapIs1 wr w.heap.size t := hHH.out.1
      have hsr : w.heap.size ≤ wr.heap.size := Nat.le_of_lt hsz
      have hbB : Below wr.heap.size wr (boxes1 (wr.alloc (Obj.cells #[Value.slice none 0 0] 25)) w.heap.size) := ((((Below.refl _ wr).alloc (Nat.le_refl _) _).alloc (by simp) _).alloc (by simp; omega) _).alloc (by simp; omega) _
      have hBx : Hid (Below wr.heap.size wr (boxes1 (wr.alloc (Obj.cells #[Value.slice none 0 0] 25)) w.heap.size)) := hbB
      obtain ⟨hb0, hb1, hb2, hb3⟩ := boxes_at wr (.cells #[Value.slice none 0 0] 25) w.heap.size
      have hbs : (boxes1 (wr.alloc (Obj.cells #[Value.slice none 0 0] 25)) w.heap.size).heap.size = wr.heap.size + 4 := by simp
      obtain ⟨W1, hW1⟩ : ∃ W1, W1 = boxes1 (wr.alloc (Obj.cells #[Value.slice none 0 0] 25)) w.heap.size := ⟨_, rfl⟩
      rw [← hW1] at hBx hb0 hb1 hb2 hb3 hbs ⊢
      clear hW1 hbB
      have hH1 := Held.below hHH.out hBx.out
      have hseq := it1_all 59 (by decide) (wr.heap.size + 1) (wr.heap.size + 1 + 1) (wr.heap.size + 1 + 1 + 1) w.heap.size t W1 (fun ty => ty ≠ 32 ∧ ty ≠ 25) (by decide) (by decide) (by decide) (by decide) hmany.out hb1 hb2 hb3 hH1.1 hH1.2.1
      have hp0 : Part wr.heap.size w.heap.size w.heap.size w t.list (grp ps) [] W1 := ⟨_, [], hb0, World.ownsRow_nil _ _ _ _, ⟨.nil, trivial⟩, hH1.2.2.2.2, hb.trans (hBx.out.mono hsr), by omega, rfl⟩
      refine wpIn_range_all (gf := 61) (lb := #[.pointer (some ⟨wr.heap.size + 1, 0, none⟩), .pointer (some ⟨wr.heap.size + 1 + 1, 0, none⟩), .pointer (some ⟨wr.heap.size + 1 + 1 + 1, 0, none⟩)]) rfl (enters_of Tryz.func61 (by kernel_rfl) rfl) hseq
        (fun h k => KeepsTy.trans h k) (fun W l o o' hl ho => KeepsTy.putObj W l o o' hl ho) (Below.refl _ _) (fun _ => rfl)
        (Part wr.heap.size w.heap.size w.heap.size w t.list (grp ps)) (Part.ownE (by omega) (Nat.le_refl _)) (Part.ownN (by omega) (Nat.le_refl _)) hp0
        (fun x a' _ => a' = { tmps := #[Value.slice A n c, undef, Value.slice none 0 0, Value.pointer (some ⟨w.heap.size, 0, none⟩), undef, u5, u6, u7, Value.pointer (some ⟨wr.heap.size, 0, none⟩), .string x.1, x.2.val,
          Value.pointer (some ⟨w.heap.size, 0, none⟩), Value.slice A n c, Value.int IntKind.i64 ↑n, Value.int IntKind.i64 ↑k, Value.bool false, u16, u17, u18, u19, u20, u21, u22, u23, u24, u25, u26, u27, u28,
          u29, u30, u31, u32, u33, Value.pointer (some ⟨w.heap.size, 0, none⟩),
          Value.func (Fn.func 61) #[] #[.pointer (some ⟨wr.heap.size + 1, 0, none⟩), .pointer (some ⟨wr.heap.size + 1 + 1, 0, none⟩), .pointer (some ⟨wr.heap.size + 1 + 1 + 1, 0, none⟩)],
          .string x.1, x.2.val, undef, undef, undef, undef, undef, undef, undef, undef], defers := [] })
        (fun _ _ _ _ _ _ h _ _ => h) ?assign ?body ?done
      case assign =>
        intro l pre x W K hI hK
        gi_wp2
        exact hK _ _ (KeepsFrom.refl _ _) (KeepsTy.refl _ _) hI rfl
      case body =>
        intro l pre x a' W hI hAx hx
        obtain ⟨v, L, g1, g2, g3, g4, g5, g6, g7⟩ := hI
        obtain rfl := hAx
        obtain ⟨key, A', m', c'⟩ := x
        obtain ⟨⟨k2, qs⟩, hb1', hEnt, hmem⟩ := all2_at g4 hx
        obtain rfl : key = k2 := hEnt.1
        obtain rfl : m' = qs.length := hEnt.2.1
        obtain ⟨g, hgA, hgB, hgl⟩ := hEnt.own
        obtain rfl : A' = some ⟨g, 0, none⟩ := hgA
        have hql : qs.length ≤ 10000 := Nat.le_trans (grp_len_le hmem) (by rw [HN.out]; exact hlen)
        have hLl : L.length ≤ 10000 := by
          have h1 := hx.length_le
          have h2 := hmany.out
          rw [t.many_list] at h1
          simp at h1
          omega
        have hrow : W.ownsRow (w.heap.size + 1) 40 9 (.slice (some ⟨g, 0, none⟩) qs.length c') qs.length (cellsOf qs) := hEnt.2.2.2
        have HC := hide fun (W2 : World) (h : W2.ownsRow (w.heap.size + 1) 40 9 (.slice (some ⟨g, 0, none⟩) qs.length c') qs.length (cellsOf qs)) => Clone_any (w.heap.size + 1) g qs.length c' qs W2 rfl h hql
        obtain ⟨i1, hk, hk0, hk1, hk2⟩ := info_parts info_KP
        have hc : W.cell? ⟨wr.heap.size, 0, none⟩ = some v := by rw [cell_of_row W _ _ _ _ (0, 0) g1]; rfl
        have hf := frozen_of_block g1 0
        have G1 := hide g1
        have G2 := hide g2
        have G3 := hide g3
        have G4 := hide g4
        have G5 := hide g5
        have G7 := hide g7
        clear g7
        have HE := hide hEnt
        have HB1 := hide hb1'
        have HX := hide hx
        have HM := hide hmem
        clear g1 g3 g4 g5 hEnt hb1' hx hmem hH1 hseq hp0 hb0 hb1 hb2 hb3 hBx
        gi_wp2
        dsimp only [Sl.val]
        refine wpIn_region_round (by kernel_rfl) (by kernel_rfl) ?_
        refine wpAnyIn_take (i := 1) (v := .string key) rfl rfl (by kernel_rfl) (by kernel_rfl) (by kernel_rfl) (fun _ _ _ h => h) ⟨Or.inl ⟨by rfl, fun w => by go_simp⟩, fun _ => rfl⟩ ?_
        refine wpAnyIn_take (i := 2) (v := (.slice (some ⟨g, 0, none⟩) qs.length c')) rfl rfl (by kernel_rfl) (by kernel_rfl) (by kernel_rfl) (fun _ _ _ h => h) ⟨Or.inl ⟨by rfl, fun w => by go_simp⟩, fun _ => rfl⟩ ?_
        refine wpAnyIn_ready (rs := [0, 3]) (by kernel_rfl) (by simp) ?_
        refine AllReadyIn.cons rfl (fun K hK => ?_) (AllReadyIn.cons rfl (fun K hK => ?_) AllReadyIn.nil)
        · go_simp
          refine hK _ _ ?_
          clear hK K
          refine wpAnyIn_ready (rs := [3]) (by kernel_rfl) (by simp) ?_
          refine AllReadyIn.cons rfl (fun K hK => ?_) AllReadyIn.nil
          go_simp
          gi_wp2_with ((refine ⟨trivial, ?_⟩; gi_at_call 25; (refine (callsIn_wide.2 (HC.out _ (own_drewN hrow 1))).mono ?_); rintro e w1 ⟨v1, rfl, hr1, hbb1⟩))
          obtain ⟨A2, c2, rfl⟩ := own_shape hr1
          refine wpAnyIn_take (i := 4) (v := (.agg #[.string key, .slice A2 qs.length c2])) rfl rfl (by kernel_rfl) (by kernel_rfl) (by kernel_rfl) (fun _ _ _ h => h) ⟨Or.inl ⟨by rfl, fun w => by go_simp⟩, fun _ => rfl⟩ ?_
          refine wpAnyIn_ready (rs := [5]) (by kernel_rfl) (by simp) ?_
          refine AllReadyIn.cons rfl (fun K hK => ?_) AllReadyIn.nil
          go_simp
          refine hK _ _ ?_
          clear hK K
          refine wpAnyIn_ready (rs := [6]) (by kernel_rfl) (by simp) ?_
          refine AllReadyIn.cons rfl (fun K hK => ?_) AllReadyIn.nil
          refine stepIn_append_lies rfl _ _ _ rfl (wr.heap.size + 1) 32 i1 (.agg #[.string ByteArray.empty, .slice none 0 0]) 2 40 Tryz.underlying25 hk hk0 hk1 hk2 rfl (by decide) v L.length (kcells L) rfl ((own_keepsTy (p := fun _ => True) G2.out.drew (KeepsTy.below hbb1) trivial).alloc _) ⟨w1.heap.size, 0, none⟩ 1 1 [.string key, .slice A2 qs.length c2] rfl rfl (World.news_of_block (cs := #[.string key, .slice A2 qs.length c2]) (heap_alloc_new w1 _)) (by intro u hu; simp at hu; rcases hu with rfl | rfl <;> rfl) (by decide) (by unfold maxLen; omega) (by omega) (by have := hbb1.size; simp at this ⊢; omega) _ rfl ?_
          intro gg cap w2 hown2 hgrow hat hlt2
          refine hK _ _ ?_
          clear hK K
          have hob2 : w2.heap[wr.heap.size]? = some (.cells #[v] 25 (0, 0)) := own_other ((own_keepsTy (p := fun _ => True) G2.out.drew (KeepsTy.below hbb1) trivial).alloc _) hgrow ((Below.heap_alloc _ _ _ (Nat.lt_of_lt_of_le g6 hbb1.size)).trans ((hbb1.block _ g6).trans G1.out)) (by decide)
          have hc3 : w2.cell? ⟨wr.heap.size, 0, none⟩ = some v := by rw [cell_of_row w2 _ _ _ _ (0, 0) hob2]; rfl
          have hf3 := frozen_of_block hob2 0
          refine wpAnyIn_ready (rs := [7]) (by kernel_rfl) (by simp) ?_
          refine AllReadyIn.cons rfl (fun K hK => ?_) AllReadyIn.nil
          go_simp
          refine hK _ _ ?_
          clear hK K
          refine wpAnyIn_done (by kernel_rfl) ?_ _
          exact ⟨rfl, Part.snoc G1.out G2.out G3.out G4.out G5.out g6 G7.out (by omega) (Nat.le_refl _) ((Below.refl _ W).drew.trans hbb1) hr1 rfl HE.out.2.2.1 hown2 hgrow HB1.out⟩
        · go_simp
          gi_wp2_with ((refine ⟨trivial, ?_⟩; gi_at_call 25; (refine (callsIn_wide.2 (HC.out _ (own_drewN hrow 1))).mono ?_); rintro e w1 ⟨v1, rfl, hr1, hbb1⟩))
          obtain ⟨A2, c2, rfl⟩ := own_shape hr1
          refine wpAnyIn_take (i := 4) (v := (.agg #[.string key, .slice A2 qs.length c2])) rfl rfl (by kernel_rfl) (by kernel_rfl) (by kernel_rfl) (fun _ _ _ h => h) ⟨Or.inl ⟨by rfl, fun w => by go_simp⟩, fun _ => rfl⟩ ?_
          refine wpAnyIn_ready (rs := [0, 5]) (by kernel_rfl) (by simp) ?_
          have hc1 : w1.cell? ⟨wr.heap.size, 0, none⟩ = some v := below_cell hbb1 (kd hc)
          refine AllReadyIn.cons rfl (fun K hK => ?_) (AllReadyIn.cons rfl (fun K hK => ?_) AllReadyIn.nil)
          · go_simp
            refine hK _ _ ?_
            clear hK K
            refine wpAnyIn_ready (rs := [5]) (by kernel_rfl) (by simp) ?_
            refine AllReadyIn.cons rfl (fun K hK => ?_) AllReadyIn.nil
            go_simp
            refine hK _ _ ?_
            clear hK K
            refine wpAnyIn_ready (rs := [6]) (by kernel_rfl) (by simp) ?_
            refine AllReadyIn.cons rfl (fun K hK => ?_) AllReadyIn.nil
            refine stepIn_append_lies rfl _ _ _ rfl (wr.heap.size + 1) 32 i1 (.agg #[.string ByteArray.empty, .slice none 0 0]) 2 40 Tryz.underlying25 hk hk0 hk1 hk2 rfl (by decide) v L.length (kcells L) rfl ((own_keepsTy (p := fun _ => True) G2.out.drew (KeepsTy.below hbb1) trivial).alloc _) ⟨w1.heap.size, 0, none⟩ 1 1 [.string key, .slice A2 qs.length c2] rfl rfl (World.news_of_block (cs := #[.string key, .slice A2 qs.length c2]) (heap_alloc_new w1 _)) (by intro u hu; simp at hu; rcases hu with rfl | rfl <;> rfl) (by decide) (by unfold maxLen; omega) (by omega) (by have := hbb1.size; simp at this ⊢; omega) _ rfl ?_
            intro gg cap w2 hown2 hgrow hat hlt2
            refine hK _ _ ?_
            clear hK K
            have hob2 : w2.heap[wr.heap.size]? = some (.cells #[v] 25 (0, 0)) := own_other ((own_keepsTy (p := fun _ => True) G2.out.drew (KeepsTy.below hbb1) trivial).alloc _) hgrow ((Below.heap_alloc _ _ _ (Nat.lt_of_lt_of_le g6 hbb1.size)).trans ((hbb1.block _ g6).trans G1.out)) (by decide)
            have hc3 : w2.cell? ⟨wr.heap.size, 0, none⟩ = some v := by rw [cell_of_row w2 _ _ _ _ (0, 0) hob2]; rfl
            have hf3 := frozen_of_block hob2 0
            refine wpAnyIn_ready (rs := [7]) (by kernel_rfl) (by simp) ?_
            refine AllReadyIn.cons rfl (fun K hK => ?_) AllReadyIn.nil
            go_simp
            refine hK _ _ ?_
            clear hK K
            refine wpAnyIn_done (by kernel_rfl) ?_ _
            exact ⟨rfl, Part.snoc G1.out G2.out G3.out G4.out G5.out g6 G7.out (by omega) (Nat.le_refl _) ((Below.refl _ W).drew.trans hbb1) hr1 rfl HE.out.2.2.1 hown2 hgrow HB1.out⟩
          · go_simp
            refine hK _ _ ?_
            clear hK K
            have hc2 : (w1.alloc (.cells #[.string key, .slice A2 qs.length c2] 32)).cell? ⟨wr.heap.size, 0, none⟩ = some v := ka hc1
            refine wpAnyIn_ready (rs := [0]) (by kernel_rfl) (by simp) ?_
            refine AllReadyIn.cons rfl (fun K hK => ?_) AllReadyIn.nil
            go_simp
            refine hK _ _ ?_
            clear hK K
            refine wpAnyIn_ready (rs := [6]) (by kernel_rfl) (by simp) ?_
            refine AllReadyIn.cons rfl (fun K hK => ?_) AllReadyIn.nil
            refine stepIn_append_lies rfl _ _ _ rfl (wr.heap.size + 1) 32 i1 (.agg #[.string ByteArray.empty, .slice none 0 0]) 2 40 Tryz.underlying25 hk hk0 hk1 hk2 rfl (by decide) v L.length (kcells L) rfl ((own_keepsTy (p := fun _ => True) G2.out.drew (KeepsTy.below hbb1) trivial).alloc _) ⟨w1.heap.size, 0, none⟩ 1 1 [.string key, .slice A2 qs.length c2] rfl rfl (World.news_of_block (cs := #[.string key, .slice A2 qs.length c2]) (heap_alloc_new w1 _)) (by intro u hu; simp at hu; rcases hu with rfl | rfl <;> rfl) (by decide) (by unfold maxLen; omega) (by omega) (by have := hbb1.size; simp at this ⊢; omega) _ rfl ?_
            intro gg cap w2 hown2 hgrow hat hlt2
            refine hK _ _ ?_
            clear hK K
            have hob2 : w2.heap[wr.heap.size]? = some (.cells #[v] 25 (0, 0)) := own_other ((own_keepsTy (p := fun _ => True) G2.out.drew (KeepsTy.below hbb1) trivial).alloc _) hgrow ((Below.heap_alloc _ _ _ (Nat.lt_of_lt_of_le g6 hbb1.size)).trans ((hbb1.block _ g6).trans G1.out)) (by decide)
            have hc3 : w2.cell? ⟨wr.heap.size, 0, none⟩ = some v := by rw [cell_of_row w2 _ _ _ _ (0, 0) hob2]; rfl
            have hf3 := frozen_of_block hob2 0
            refine wpAnyIn_ready (rs := [7]) (by kernel_rfl) (by simp) ?_
            refine AllReadyIn.cons rfl (fun K hK => ?_) AllReadyIn.nil
            go_simp
            refine hK _ _ ?_
            clear hK K
            refine wpAnyIn_done (by kernel_rfl) ?_ _
            exact ⟨rfl, Part.snoc G1.out G2.out G3.out G4.out G5.out g6 G7.out (by omega) (Nat.le_refl _) ((Below.refl _ W).drew.trans hbb1) hr1 rfl HE.out.2.2.1 hown2 hgrow HB1.out⟩
      case done =>
        intro D W hD hI hcol
        obtain ⟨v, L, g1, g2, g3, g4, g5, g6, g7⟩ := hI
        have hc : W.cell? ⟨wr.heap.size, 0, none⟩ = some v := by rw [cell_of_row W _ _ _ _ (0, 0) g1]; rfl
        have hT : t.list.length = (grp ps).length := hH1.2.2.2.2.length
        rw [List.take_of_length_le (by omega)] at g3
        have G2 := hide g2
        have G3 := hide g3
        have G5 := hide g5
        clear g1 g2 g3 g4 g5
        gi_wp2
        refine ⟨by simp, .inl ⟨_, _, rfl, run_takeDeferred hcol, ?_⟩⟩
        refine ⟨_, results_tmp rfl _ _ _, v, L, rfl, own_keepsTy (own_mono G2.out (by omega)) (KeepsTy.putObj (p := fun _ => True) _ _ _ _ hcol rfl) trivial, ⟨G3.out.1, G3.out.2.imp fun _ _ _ h => (h.mono (by omega)).keeps (KeepsTy.putObj (p := fun _ => True) _ _ _ _ hcol rfl) trivial⟩, ?_⟩
        exact G5.out.grown (grownBy_putObj' W D _) G5.out.size (fun r hr => by cases hr; omega)
theorem keys_any (A : Option Addr) (n c : Nat) (ps : List Pn) (w : World) (hn : ps.length = n) (hR : Rd w A ps) (hlen : n ≤ 10000) :
    Calls Tryz.prog 6 #[.slice A n c] w (KeysDone ps w) := (keys_sep A n c ps w hn hR hlen).mono fun _ _ h => by
  obtain ⟨v, L, h1, h2, h3, h4⟩ := h
  exact ⟨v, L, h1, h2, h3.2, h4⟩
end Go.Proofs.YtciahchpdmajbaaGreatDoor
