/- All of the map of panes by keys: the iterator hands over the tree's list. -/
import Derived.Test.YtciahchpdmajbaaGreatDoorKeep
import Derived.OwnWalkIn
import Derived.TacticsInMore
import Derived.LoopNIn
import Derived.LoopIn
import Derived.Deep.LoopGhost
import Derived.Stop.RegionWithIn
namespace Go.Proofs.YtciahchpdmajbaaGreatDoor
open Go.RowKit
attribute [local go_sem ↓] Go.wp_at_zero Go.wp_at_succ

theorem info_NodeP1 : (Tryz.prog.info? 89).map (fun i => (i.zero, i.size, i.bytes)) = some (some (.pointer none), 1, 8) := by kernel_rfl
abbrev St1 := List (Nat × ByteArray × Sl × Tr ByteArray Sl × Tr ByteArray Sl)
def St1.ptrs (st : St1) : List Value := st.reverse.map fun x => Value.pointer (some ⟨x.1, 0, none⟩)

theorem restS_le {K V : Type} (st : List (Nat × K × V × Tr K V × Tr K V)) : st.length ≤ (Tr.restS st).length := by
  induction st with
  | nil => exact Nat.le_refl _
  | cons x st ih => obtain ⟨b, k, v, l, r⟩ := x; simp only [Tr.restS, List.length_cons, List.length_append]; omega

set_option maxHeartbeats 4000000 in
set_option maxRecDepth 100000 in
theorem it1_all (n : Nat) (hn : 1 ≤ n) (Bm Bb Bo mb : Nat) (t0 : Tr ByteArray Sl) (w : World) (pp : TypeId → Prop)
    (p2 : pp 4) (p3 : pp 96) (p5 : pp 93) (p6 : pp 89) (hm : t0.many ≤ 10000)
    (h1 : w.heap[Bm]? = some (.cells #[.pointer (some ⟨mb, 0, none⟩)] 46 (0, 0))) (h2 : w.heap[Bb]? = some (.cells #[.bool false] 4 (0, 0))) (h3 : w.heap[Bo]? = some (.cells #[.func (.func 46) #[] #[]] 96 (0, 0)))
    (h4 : MapIs1 w mb t0) (h5 : In1 w t0) :
    SeqAll n Tryz.prog 61 #[.pointer (some ⟨Bm, 0, none⟩), .pointer (some ⟨Bb, 0, none⟩), .pointer (some ⟨Bo, 0, none⟩)] (fun x : ByteArray × Sl => #[.string x.1, x.2.val]) 89 (KeepsTy pp) t0.list w := by
  intro l J W hW hJ hY h0
  have hm1 : W.heap[Bm]? = some (.cells #[.pointer (some ⟨mb, 0, none⟩)] 46 (0, 0)) := (hW.block _ (Tr.lt_of_some h1)).trans h1
  have hm2 : W.heap[Bb]? = some (.cells #[.bool false] 4 (0, 0)) := (hW.block _ (Tr.lt_of_some h2)).trans h2
  have hm3 : W.heap[Bo]? = some (.cells #[.func (.func 46) #[] #[]] 96 (0, 0)) := (hW.block _ (Tr.lt_of_some h3)).trans h3
  have hm4 : MapIs1 W mb t0 := (hW.block _ (Tr.lt_of_some h4)).trans h4
  have hm5 : In1 W t0 := h5.below hW
  have c1 : W.cell? ⟨Bm, 0, none⟩ = some (.pointer (some ⟨mb, 0, none⟩)) := by rw [cell_of_row W Bm _ _ _ (0, 0) hm1]; rfl
  have c2 := hm4.cells.1
  have c3 := hm4.cells.2
  have HM2 := hide hm2
  have HM3 := hide hm3
  have HY := hide hY
  have HJ := hide hJ
  clear h1 h2 h3 h4 h5 hm1 hm2 hm3 hm4 hW hY hJ
  obtain ⟨i0, hi, hz0, hz1, hz2⟩ := info_parts info_NodeP1
  refine callsIn_of_wp Tryz.func61 rfl trivial ?_ rfl
  simp only [Tryz.ntmps61, List.size_toArray, List.length_cons, List.length_nil, Nat.reduceAdd, Nat.reduceSub, Array.replicate_succ, Array.replicate_zero, List.push_toArray, List.append_toArray, List.nil_append, List.cons_append]
  have HN := hide (none1_ok mb 29 W c2)
  refine wpIn_scope_wide ?_
  gi_wp2_with (refine ⟨trivial, ?_⟩; gi_at_call 43; (refine (callsIn_wide.2 (unhide HN)).mono ?_); rintro e w1 ⟨rfl, rfl⟩)
  refine wpIn_label ?_
  gi_wp2
  refine wpIn_wide.2 ?_
  clear c1 c2 c3
  go_loopg [5, 6] t0.many (fun g s p wr => ∃ (pre : List (ByteArray × Sl)) (st : St1) (t : Tr ByteArray Sl) (q : Option Addr),
    p = .pointer q ∧ t.ad = q ∧ Hid (t0.list = pre ++ (t.list ++ Tr.restS st)) ∧ (t.list ++ Tr.restS st).length ≤ g ∧ In1 wr t ∧ Tr.StIn 93 en1 wr st ∧
    wr.ownsRow W.heap.size 89 1 s st.length st.ptrs ∧ Hid (J pre wr) ∧ KeepsTy pp W wr ∧ W.heap.size ≤ wr.heap.size)
  case atStart => exact ⟨[], [], t0, t0.ad, rfl, rfl, by show t0.list = _; simp [Tr.restS], by simp [Tr.restS, t0.many_list], hm5, (fun _ h => by cases h), World.ownsRow_nil _ _ _ _, h0, KeepsTy.refl _ _, Nat.le_refl _⟩
  case round =>
    obtain ⟨pre, st, t, q, rfl, hq, hL, hg, ht, hst, hown, hJ', hk, hsz⟩ := hrel
    refine (wpIn_wide (n := n)).1 ?_
    gi_wp2
    refine wpIn_wide.2 ?_
    go_loopg [5, 6, 7, 8] t.many (fun g2 s p near far w2 => ∃ (st2 : St1) (t2 : Tr ByteArray Sl) (q2 : Option Addr),
      p = .pointer q2 ∧ t2.ad = q2 ∧ Hid (t0.list = pre ++ (t2.list ++ Tr.restS st2)) ∧ Hid ((t2.list ++ Tr.restS st2).length = (t.list ++ Tr.restS st).length) ∧ t2.many ≤ g2 ∧ In1 w2 t2 ∧ Tr.StIn 93 en1 w2 st2 ∧
      w2.ownsRow W.heap.size 89 1 s st2.length st2.ptrs ∧ Hid (J pre w2) ∧ KeepsTy pp W w2 ∧ W.heap.size ≤ w2.heap.size)
    case atStart => exact ⟨st, t, q, rfl, hq, hL, rfl, Nat.le_refl _, ht, hst, hown, hJ', hk, hsz⟩
    case round =>
      clear hL ht hst hown hJ' hk hsz
      obtain ⟨st2, t2, q2, rfl, hq2, hL2, hS2, hg2, ht2, hst2, hown2, hJ2, hk2, hsz2⟩ := hrel
      cases t2 with
      | nil =>
        obtain rfl : none = q2 := hq2
        cases st2 with
        | nil =>
          obtain ⟨A, c, rfl⟩ := own_shape hown2
          have HE : Hid (J t0.list wr) := by
            have h := hL2.out
            simp only [Tr.list, Tr.restS, List.append_nil] at h
            show J _ _
            rw [h]
            exact hJ2.out
          refine (wpIn_wide (n := n)).1 ?_
          gi_wp2
          rw [Exit.noGoto_normal]
          go_end0
          exact ⟨⟨_, rfl⟩, HE.out⟩
        | cons x st3 =>
          obtain ⟨b, k, v, tl, tr⟩ := x
          obtain ⟨A', n', c'⟩ := v
          obtain ⟨g, c, rfl, hgB, hgs⟩ := hown2.form (Nat.succ_pos _)
          have hnd : In1 wr (Tr.node b k ⟨A', n', c'⟩ tl tr) := hst2 _ (List.mem_cons_self ..)
          obtain ⟨d0, d1, d2, d3, d4, d5⟩ := hnd.cells
          have htop : wr.cell? ⟨g, st3.length, none⟩ = some (.pointer (some ⟨b, 0, none⟩)) := by
            rw [hown2.cellAt st3.length (by simp)]
            simp [St1.ptrs]
          have hlen : st3.length ≤ 10000 := by
            have h1 := congrArg List.length hL2.out
            have h2 := restS_le st3
            rw [t0.many_list] at h1
            simp only [List.length_append, Tr.restS, List.length_cons] at h1
            omega
          have b2 : wr.cell? ⟨Bb, 0, none⟩ = some (.bool false) := by rw [cell_of_row wr Bb _ _ _ (0, 0) (hk2 _ _ _ p2 HM2.out)]; rfl
          have hcap : (st3.length : Int) ≤ (c : Int) := by have := own_cap hown2; simp at this; omega
          have hx : pre ++ [(k, (⟨A', n', c'⟩ : Sl))] <+: t0.list := ⟨tr.list ++ Tr.restS st3, by rw [hL2.out]; simp [Tr.list, Tr.restS]⟩
          obtain ⟨fn, tmps, assign, body, hy, hR⟩ := HY.out pre (k, ⟨A', n', c'⟩) wr.drew (HJ.out.drewN hJ2.out 1) hx
          dsimp only at hy
          have HX := hide hx
          have HOWN := hide hown2
          have HK := hide hk2
          have HST := hide hst2
          have HND := hide hnd
          clear hx hown2 hk2 hst2 hnd ht2
          refine (wpIn_wide (n := n)).1 ?_
          gi_wp2
          gi_region_with ((refine hR.mono ?_; rintro e W3 ⟨rfl, hJ3, hk3⟩))
          all_goals
            have hn3 : In1 W3 (Tr.node b k ⟨A', n', c'⟩ tl tr) := hk3.in_ HND.out.drew p5
            have e3 := hn3.cells.2.2.2.1
            have HR3 := hide hn3.2.2
            have b3 : W3.cell? ⟨Bb, 0, none⟩ = some (.bool false) := by rw [cell_of_row W3 Bb _ _ _ (0, 0) (hk3 _ _ _ p2 (HK.out _ _ _ p2 HM2.out))]; rfl
            have HO3 := hide (p := W3.ownsRow W.heap.size 89 1 (.slice (some ⟨g, 0, none⟩) (st3.length + 1) c) (st3.length + 1) (St1.ptrs st3 ++ [.pointer (some ⟨b, 0, none⟩)])) (by
              have e : St1.ptrs ((b, k, ⟨A', n', c'⟩, tl, tr) :: st3) = St1.ptrs st3 ++ [.pointer (some ⟨b, 0, none⟩)] := by simp [St1.ptrs]
              rw [← e]
              exact own_keepsTy HOWN.out hk3 p6)
            have HK3 := hide ((HK.out.drew).trans hk3)
            have HS3 := hide (p := Tr.StIn 93 en1 W3 st3) (fun x hx => hk3.in_ (HST.out x (List.mem_cons_of_mem _ hx)).drew p5)
            have HJ3 := hide hJ3
            clear hn3 hJ3 hk3 hy hR
            gi_wp2
            go_roundg (tr.list ++ Tr.restS st3).length
            case measure =>
              have h := hS2.out
              simp only [Tr.list, Tr.restS, List.nil_append, List.length_cons] at h
              omega
            case rel =>
              refine ⟨pre ++ [(k, ⟨A', n', c'⟩)], st3, tr, tr.ad, rfl, rfl, ?_, Nat.le_refl _, HR3.out, HS3.out, ?_, HJ3, HK3.out, ?_⟩
              · show _ = _
                rw [hL2.out]
                simp [Tr.list, Tr.restS]
              · exact ownsRow_pop (by simp [St1.ptrs]) HO3.out
              · obtain ⟨_, _, he, h1, h2⟩ := HO3.out.form (Nat.succ_pos _)
                omega
      | node b k v tl tr =>
        obtain rfl : some ⟨b, 0, none⟩ = q2 := hq2
        obtain ⟨A', n', c'⟩ := v
        obtain ⟨A, c, rfl⟩ := own_shape hown2
        obtain ⟨d0, d1, d2, d3, d4, d5⟩ := ht2.cells
        have ktl : In1 wr tl := ht2.2.1
        have b2 : wr.cell? ⟨Bb, 0, none⟩ = some (.bool false) := by rw [cell_of_row wr Bb _ _ _ (0, 0) (hk2 _ _ _ p2 HM2.out)]; rfl
        have b3 : wr.cell? ⟨Bo, 0, none⟩ = some (.func (.func 46) #[] #[]) := by rw [cell_of_row wr Bo _ _ _ (0, 0) (hk2 _ _ _ p3 HM3.out)]; rfl
        have HF := hide fun (W9 : World) (j : Nat) => allF1_any k (W9.drewN j)
        have HT := hide ht2
        clear ht2 d4 d5
        go_wp2_with fail
        go_quiet (fail)
        go_wp2_with fail
        obtain ⟨Wq, hWq⟩ : ∃ Wq, Wq = wr.drewN nq := ⟨_, rfl⟩
        rw [← hWq]
        have e0 : Wq.cell? ⟨b, 0, none⟩ = some (.string k) := by rw [hWq]; exact d0
        have b3 : Wq.cell? ⟨Bo, 0, none⟩ = some (.func (.func 46) #[] #[]) := by rw [hWq]; exact b3
        have HWq := hide hWq
        clear hWq
        go_quiet ((go_at_call 46; with_reducible exact still_first (unhide HF Wq _)))
        obtain ⟨Wr, hWr⟩ : ∃ Wr, Wr = Wq.drewN nq := ⟨_, rfl⟩
        rw [← hWr]
        have hWr2 : ∃ j, Wr = wr.drewN j := ⟨_, by rw [hWr, HWq.out, World.drewN_drewN]⟩
        obtain ⟨j, hj⟩ := hWr2
        have ktr : In1 Wr tl := by rw [hj]; exact ktl.drewN _
        have hownr : Wr.ownsRow W.heap.size 89 1 (.slice A st2.length c) st2.length st2.ptrs := by rw [hj]; exact own_drewN hown2 _
        have hJr : Hid (J pre Wr) := by rw [hj]; exact HJ.out.drewN hJ2.out _
        have hkr : KeepsTy pp W Wr := by rw [hj]; exact hk2.drewN _
        have hszr : W.heap.size ≤ Wr.heap.size := by rw [hj]; exact hsz2
        have hTr : Hid (In1 Wr (Tr.node b k ⟨A', n', c'⟩ tl tr)) := by rw [hj]; exact HT.out.drewN _
        have hstr : Tr.StIn 93 en1 Wr st2 := by rw [hj]; exact hst2.keep fun _ h => h.drewN _
        have hlen : st2.length ≤ 10000 := by
          have h1 := congrArg List.length hL2.out
          have h2 := restS_le st2
          rw [t0.many_list] at h1
          simp only [List.length_append] at h1
          omega
        clear hj hWr HWq e0 b2 b3 d0 d1 d2 d3 ktl hown2 hJ2 hk2 hsz2 hst2
        have HK := hide hkr
        have HST := hide hstr
        have HKT := hide ktr
        clear hkr hstr ktr
        go_wp2_with (at_builtin; refine wpList_append_own _ rfl _ _ 115 rfl W.heap.size 89 i0 (.pointer none) 1 8 Tryz.underlying115 hi hz0 hz1 hz2 rfl (by decide) _ _ _ rfl (hownr.alloc _) ⟨Wr.heap.size, 0, none⟩ 1 1 [.pointer (some ⟨b, 0, none⟩)] rfl rfl (cell_one_new _ _ _) (by simp [Value.oneCell']) (by unfold maxLen; omega) (by omega) (by simp; omega) ?_; intro v' w1 hown' hgrow _)
        go_roundg tl.many
        case measure =>
          have : tl.many + tr.many + 1 ≤ gk := hg2
          omega
        case rel =>
          have ha := hownr.alloc (Obj.cells #[.pointer (some ⟨b, 0, none⟩)] 89)
          refine ⟨(b, k, ⟨A', n', c'⟩, tl, tr) :: st2, tl, tl.ad, rfl, rfl, ?_, ?_, Nat.le_refl _, ?_, ?_, ?_, ?_, ?_, ?_⟩
          · have h := hL2.out
            simp only [Tr.list, Tr.restS] at h ⊢
            show _ = _
            rw [h]
            simp
          · have h := hS2.out
            show _ = _
            rw [← h]
            simp [Tr.list, Tr.restS]
          · exact in_append ha hgrow (by decide) (HKT.out.alloc _)
          · intro x hx
            rcases List.mem_cons.1 hx with rfl | hx
            · exact in_append ha hgrow (by decide) (hTr.out.alloc _)
            · exact in_append ha hgrow (by decide) ((HST.out x hx).alloc _)
          · have e : (St1.ptrs ((b, k, ⟨A', n', c'⟩, tl, tr) :: st2)) = St1.ptrs st2 ++ [.pointer (some ⟨b, 0, none⟩)] := by simp [St1.ptrs]
            rw [e]
            exact hown'
          · exact HJ.out.append (HJ.out.alloc hJr.out _) ha hgrow
          · exact (HK.out.alloc _).append (by simp; omega) ha hgrow
          · have := hgrow.size
            simp at this
            omega
end Go.Proofs.YtciahchpdmajbaaGreatDoor
