/- Last: the walk. -/
import Derived.Test.YtciahchpdmajbaaGreatDoorLast1
import Derived.Shelf.Abstract
namespace Go.Proofs.YtciahchpdmajbaaGreatDoor
open Go.RowKit
attribute [local go_sem ↓] Go.wp_at_zero Go.wp_at_succ
attribute [local go_sem] Oper.semAt_some

theorem boxes2_at (wr : World) (o : Obj) (mb : Nat) : (boxes2 (wr.alloc o) mb).heap[wr.heap.size]? = some o ∧ (boxes2 (wr.alloc o) mb).heap[wr.heap.size + 1]? = some (.cells #[.pointer (some ⟨mb, 0, none⟩)] 55 (0, 0)) ∧
    (boxes2 (wr.alloc o) mb).heap[wr.heap.size + 1 + 1]? = some (.cells #[.bool false] 4 (0, 0)) ∧ (boxes2 (wr.alloc o) mb).heap[wr.heap.size + 1 + 1 + 1]? = some (.cells #[.func (.func 53) #[] #[]] 106 (0, 0)) := by
  have n1 : ∀ (w : World) (o : Obj) (s : Nat), w.heap.size = s → (w.alloc o).heap[s]? = some o := fun w o s h => by subst h; exact heap_alloc_new w o
  refine ⟨?_, ?_, ?_, ?_⟩
  · exact (Below.heap_alloc _ _ _ (by simp; omega)).trans ((Below.heap_alloc _ _ _ (by simp; omega)).trans ((Below.heap_alloc _ _ _ (by simp)).trans (heap_alloc_new wr o)))
  · exact (Below.heap_alloc _ _ _ (by simp)).trans ((Below.heap_alloc _ _ _ (by simp)).trans (n1 _ _ _ (by simp)))
  · exact (Below.heap_alloc _ _ _ (by simp)).trans (n1 _ _ _ (by simp))
  · exact n1 _ _ _ (by simp)

set_option maxHeartbeats 4000000 in
set_option maxRecDepth 100000 in
theorem last_any (A : Option Addr) (n c : Nat) (ps : List Pn) (w : World) (hn : ps.length = n) (hR : Rd w A ps) (hlen : n ≤ 10000) :
    Calls Tryz.prog 7 #[.slice A n c] w (LastDone ps w) := by
  obtain ⟨i0, hi, hz0, hz1, hz2⟩ := info_parts info_Pane
  have HR := hide hR
  have HN := hide hn
  clear hR hn
  refine callsIn_wide.1 (callsIn_of_wp_marks (n := 60) Tryz.func7 rfl trivial ?_ rfl)
  simp only [Tryz.ntmps7, List.size_toArray, List.length_cons, List.length_nil, Nat.reduceAdd, Nat.reduceSub, Array.replicate_succ, Array.replicate_zero, List.push_toArray, List.append_toArray, List.nil_append, List.cons_append]
  have HO := hide (New2_any w)
  gi_wp2_with (refine ⟨trivial, ?_⟩; gi_at_call 26; (refine (callsIn_wide.2 (unhide HO)).mono ?_); rintro e w1 ⟨rfl, rfl⟩)
  clear HO
  refine wpIn_wide.2 ?_
  have hH0 : Hid (Held2 w.heap.size (w.alloc (.cells #[.func (.func 27) #[] #[], .pointer none] 99)) Tr.nil []) :=
    ⟨heap_alloc_new w _, trivial, rfl⟩
  go_loopw [16] (fun i wr => ∃ (k : Nat) (t : Tr Ak Pn), k ≤ n ∧ i = .int .i64 k ∧ Below w.heap.size w wr ∧ w.heap.size < wr.heap.size ∧ Hid (Held2 w.heap.size wr t (ps.take k))) (fun i _ => n - (intOf i).toNat)
  case atStart => exact ⟨0, .nil, Nat.zero_le _, rfl, (Below.refl _ w).alloc (Nat.le_refl _) _, by simp, hH0⟩
  case round =>
    clear hH0
    obtain ⟨k, t, hk, rfl, hb, hsz, hH⟩ := hrel
    by_cases hlt : k < n
    · obtain ⟨b, o, hA, e0, e1, e2, e3, e4, e5, e6, e7, e8⟩ := (HR.out.keep hb).at_ (i := k) (by rw [HN.out]; exact hlt)
      obtain rfl := hA
      obtain ⟨p, hp⟩ : ∃ p, p = ps[k]'(by rw [HN.out]; exact hlt) := ⟨_, rfl⟩
      rw [← hp] at e0 e1 e2 e3 e4 e5 e6 e7 e8
      have HP := hide hp
      clear hp
      have HT := hide (Nat.le_trans (Held2.many hH.out) (by rw [List.length_take]; omega) : t.many ≤ 10000)
      have hHb := Held2.below hH.out ((Below.refl _ wr).alloc (Nat.le_refl _) (.cells p.cells.toArray 40))
      have HPut := hide (Put2_any (akOf p) p w.heap.size t _ hHb.2.1 hHb.1 HT.out)
      have HH := hide hHb
      clear hHb hH
      go_wp2_with (go_at_call 31; (with_reducible refine (unhide HPut).mono ?_); rintro e w2 ⟨p', ok, rfl, t', hm2', hi2, hx2, ho2⟩)
      have hb2 : Below w.heap.size w w2 := (hb.alloc hb.size _).grown ho2 (by have := hb.size; simp; omega) (fun r hr => by injection hr with hr; omega)
      have hs2 : w.heap.size < w2.heap.size := Nat.lt_of_lt_of_le (by simp; omega) ho2.size
      have hfin : Hid (Held2 w.heap.size w2 t' (ps.take (k + 1))) := by
        rw [take_snoc ps k (by rw [HN.out]; exact hlt), ← HP.out]
        exact Held2.put HH.out hm2' hi2 hx2
      clear ho2 hm2' hi2 hx2 e0 e1 e2 e3 e4 e5 e6 e7 e8
      go_roundw
      case rel => exact ⟨k + 1, t', by omega, by go_num, hb2, hs2, hfin⟩
      case measure => simp [intOf]; omega
    · have hHH : Hid (Held2 w.heap.size wr t ps) := by
        have h := hH.out
        rwa [List.take_of_length_le (by rw [HN.out]; omega)] at h
      clear hH
      have hmany := hide (Nat.le_trans (Held2.many hHH.out) (by rw [HN.out]; exact hlen) : t.many ≤ 10000)
      clear hk
      go_wp2_with fail
      gi_wp2_with (refine ⟨trivial, ?_⟩; gi_at_call 32; (refine (callsIn_wide.2 (All2_any w.heap.size _)).mono ?_); rintro e w1 ⟨rfl, rfl⟩)
      have hm0 : MapIs2 wr w.heap.size t := hHH.out.1
      have hsr : w.heap.size ≤ wr.heap.size := Nat.le_of_lt hsz
      have hBx : Hid (Below wr.heap.size wr (boxes2 (wr.alloc (Obj.cells #[Value.slice none 0 0] 22)) w.heap.size)) := ((((Below.refl _ wr).alloc (Nat.le_refl _) _).alloc (by simp) _).alloc (by simp; omega) _).alloc (by simp; omega) _
      obtain ⟨hb0, hb1, hb2, hb3⟩ := boxes2_at wr (.cells #[Value.slice none 0 0] 22) w.heap.size
      have hbs : (boxes2 (wr.alloc (Obj.cells #[Value.slice none 0 0] 22)) w.heap.size).heap.size = wr.heap.size + 4 := by simp
      obtain ⟨W1, hW1⟩ : ∃ W1, W1 = boxes2 (wr.alloc (Obj.cells #[Value.slice none 0 0] 22)) w.heap.size := ⟨_, rfl⟩
      rw [← hW1] at hBx hb0 hb1 hb2 hb3 hbs ⊢
      clear hW1
      have hH1 := Held2.below hHH.out hBx.out
      have hseq := it2_all 59 (by decide) (wr.heap.size + 1) (wr.heap.size + 1 + 1) (wr.heap.size + 1 + 1 + 1) w.heap.size t W1 (fun ty => ty ≠ 40 ∧ ty ≠ 22) (by decide) (by decide) (by decide) (by decide) hmany.out hb1 hb2 hb3 hH1.1 hH1.2.1
      have hp0 : Part2 wr.heap.size w.heap.size w [] W1 := ⟨_, hb0, World.ownsRow_nil _ _ _ _, hb.trans (hBx.out.mono hsr), by omega⟩
      refine wpIn_range_all (gf := 64) (lb := #[.pointer (some ⟨wr.heap.size + 1, 0, none⟩), .pointer (some ⟨wr.heap.size + 1 + 1, 0, none⟩), .pointer (some ⟨wr.heap.size + 1 + 1 + 1, 0, none⟩)]) rfl (enters_of Tryz.func64 (by kernel_rfl) rfl) hseq
        (fun h k => KeepsTy.trans h k) (fun W l o o' hl ho => KeepsTy.putObj W l o o' hl ho) (Below.refl _ _) (fun _ => rfl)
        (Part2 wr.heap.size w.heap.size w) (Part2.ownE (by omega) (Nat.le_refl _)) (Part2.ownN (by omega) (Nat.le_refl _)) hp0
        (fun x a' W => ∃ s : Nat, W.heap[s]? = some (.cells x.2.cells.toArray 40 (0, 0)) ∧ a' =
          { tmps := #[Value.slice A n c, undef, Value.slice none 0 0, Value.pointer (some ⟨w.heap.size, 0, none⟩),
          Value.int IntKind.i64 0, undef, u6, Value.pointer (some ⟨wr.heap.size, 0, none⟩), undef, .pointer (some ⟨s, 0, none⟩),
          Value.tuple #[Value.pointer (some ⟨w.heap.size, 0, none⟩), Value.int IntKind.i64 0],
          Value.tuple #[Value.pointer (some ⟨w.heap.size, 0, none⟩), Value.int IntKind.i64 0],
          Value.pointer (some ⟨w.heap.size, 0, none⟩), Value.int IntKind.i64 0, Value.slice A n c,
          Value.int IntKind.i64 ↑n, Value.int IntKind.i64 ↑k, Value.bool false, u18, u19, u20, u21, u22, u23, u24, u25,
          u26, u27, u28, Value.pointer (some ⟨w.heap.size, 0, none⟩),
          Value.func (Fn.func 64) #[] #[.pointer (some ⟨wr.heap.size + 1, 0, none⟩), .pointer (some ⟨wr.heap.size + 1 + 1, 0, none⟩), .pointer (some ⟨wr.heap.size + 1 + 1 + 1, 0, none⟩)],
          x.1.val, x.2.val, undef, undef, undef, undef, undef], defers := [] })
        (fun x a' _ _ _ row h hg hr => h.imp fun s hs => ⟨keeps_not (p := fun _ => True) hg (fun r h => (hr r h).2) _ _ _ trivial hs.1, hs.2⟩) ?assign ?body ?done
      case assign =>
        intro l pre x W K hI hK
        gi_wp2
        refine hK _ _ ?_ (KeepsTy.below ((Below.refl _ W).alloc (Nat.le_refl _) _)) (hI.alloc (Nat.le_refl _) _) ⟨W.heap.size, heap_alloc_new W _, rfl⟩
        exact ⟨by simp, fun i u _ hi _ => (Below.heap_alloc _ _ _ (Tr.lt_of_some hi)).trans hi⟩
      case body =>
        intro l pre x a' W hI hAx hx
        obtain ⟨v, g1, g2, g5, g6⟩ := hI
        obtain ⟨s, hs, rfl⟩ := hAx
        obtain ⟨key, p⟩ := x
        have hLl : pre.length ≤ 10000 := by
          have h1 := hx.length_le
          have h2 := hmany.out
          rw [t.many_list] at h1
          simp at h1
          omega
        have hc : W.cell? ⟨wr.heap.size, 0, none⟩ = some v := by rw [cell_of_row W _ _ _ _ (0, 0) g1]; rfl
        have x0 : W.cell? ⟨s, 0, none⟩ = some (.string p.key) := by rw [cell_of_row W _ _ _ _ (0, 0) hs]; rfl
        have x1 : W.cell? ⟨s, 1, none⟩ = some (.int .i64 p.s) := by rw [cell_of_row W _ _ _ _ (0, 0) hs]; rfl
        have x2 : W.cell? ⟨s, 2, none⟩ = some (.int .i64 p.e) := by rw [cell_of_row W _ _ _ _ (0, 0) hs]; rfl
        have x3 : W.cell? ⟨s, 3, none⟩ = some (.int .i64 p.kind) := by rw [cell_of_row W _ _ _ _ (0, 0) hs]; rfl
        have x4 : W.cell? ⟨s, 4, none⟩ = some (.int .i64 p.nth) := by rw [cell_of_row W _ _ _ _ (0, 0) hs]; rfl
        have x5 : W.cell? ⟨s, 5, none⟩ = some (.int .i64 p.count) := by rw [cell_of_row W _ _ _ _ (0, 0) hs]; rfl
        have x6 : W.cell? ⟨s, 6, none⟩ = some (.int .i64 p.sum) := by rw [cell_of_row W _ _ _ _ (0, 0) hs]; rfl
        have x7 : W.cell? ⟨s, 7, none⟩ = some (.int .i64 p.min) := by rw [cell_of_row W _ _ _ _ (0, 0) hs]; rfl
        have x8 : W.cell? ⟨s, 8, none⟩ = some (.int .i64 p.max) := by rw [cell_of_row W _ _ _ _ (0, 0) hs]; rfl
        have ha := g2.alloc (.cells p.cells.toArray 40)
        have G1 := hide g1
        have G2 := hide g2
        have G5 := hide g5
        have G6 := hide g6
        clear g1 g2 g5 hs hx hH1 hseq hp0 hb0 hb1 hb2 hb3 hBx
        gi_wp2_with (gi_at_builtin; refine Hid.out ?_)
        refine hide ?_
        refine wpListIn_append_own _ rfl _ _ 22 rfl (wr.heap.size + 1) 40 i0 zeroPane 9 80 Tryz.underlying22 hi hz0 hz1 hz2 rfl (by decide) _ _ _ rfl ha ⟨W.heap.size, 0, none⟩ 1 1 p.cells rfl rfl (pn_news rfl p) (pn_one p) (by unfold maxLen; omega) (by omega) (by simp; omega) ?_
        intro v' w2 hown2 hgrow _
        obtain ⟨A', c', rfl⟩ := own_shape hown2
        have hob2 : w2.heap[wr.heap.size]? = some (.cells #[v] 22 (0, 0)) := own_other ha hgrow ((Below.heap_alloc _ _ _ G6.out).trans G1.out) (by decide)
        have hc3 : w2.cell? ⟨wr.heap.size, 0, none⟩ = some v := by rw [cell_of_row w2 _ _ _ _ (0, 0) hob2]; rfl
        have hf3 := frozen_of_block hob2 0
        have HS := hide (p := KeepsFrom (wr.heap.size + 4) W (w2.setCell ⟨wr.heap.size, 0, none⟩ (.slice A' (pre.length + 1) c')) ∧ KeepsTy (fun ty => ty ≠ 40 ∧ ty ≠ 22) W (w2.setCell ⟨wr.heap.size, 0, none⟩ (.slice A' (pre.length + 1) c')) ∧ Part2 wr.heap.size w.heap.size w (pre ++ [(key, p)]) (w2.setCell ⟨wr.heap.size, 0, none⟩ (.slice A' (pre.length + 1) c')))
          (Part2.snoc G1.out G2.out G5.out G6.out (by omega) (Nat.le_refl _) rfl rfl hown2 hgrow)
        clear hown2 hgrow ha hob2 hc
        gi_wp2
        exact HS.out
      case done =>
        intro D W hD hI hcol
        obtain ⟨v, g1, g2, g5, g6⟩ := hI
        have hc : W.cell? ⟨wr.heap.size, 0, none⟩ = some v := by rw [cell_of_row W _ _ _ _ (0, 0) g1]; rfl
        have HL := hide (p := t.list = lst ps) hH1.2.2
        have G2 := hide g2
        have G5 := hide g5
        clear g1 g2 g5
        gi_wp2
        refine ⟨by simp, .inl ⟨_, _, rfl, run_takeDeferred hcol, ?_⟩⟩
        refine ⟨_, results_tmp rfl _ _ _, v, rfl, ?_, ?_⟩
        · have e9 : lastOf ps = t.list.map Prod.snd := by
            show (lst ps).map _ = _
            rw [HL.out]
          rw [e9, List.length_map]
          have h0 := own_mono G2.out (show w.heap.size ≤ wr.heap.size + 1 by omega)
          exact own_keepsTy (p := fun _ => True) h0 (KeepsTy.putObj _ _ _ _ hcol rfl) trivial
        · exact G5.out.grown (grownBy_putObj' W D _) G5.out.size (fun r hr => by cases hr; omega)
end Go.Proofs.YtciahchpdmajbaaGreatDoor
