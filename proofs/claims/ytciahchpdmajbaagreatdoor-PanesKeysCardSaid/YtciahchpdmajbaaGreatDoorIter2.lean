/- All of Last's map: the iterator hands over the tree's list. -/
import Derived.Test.YtciahchpdmajbaaGreatDoorLeaf2
import Derived.OwnWalkIn
import Derived.TacticsInMore
import Derived.LoopNIn
import Derived.LoopIn
import Derived.Deep.LoopGhost
import Derived.Stop.RegionWithIn
namespace Go.Proofs.YtciahchpdmajbaaGreatDoor
open Go.RowKit
attribute [local go_sem ↓] Go.wp_at_zero Go.wp_at_succ

theorem info_NodeP2 : (Tryz.prog.info? 97).map (fun i => (i.zero, i.size, i.bytes)) = some (some (.pointer none), 1, 8) := by kernel_rfl
abbrev St2 := List (Nat × Ak × Pn × Tr Ak Pn × Tr Ak Pn)
def St2.ptrs (st : St2) : List Value := st.reverse.map fun x => Value.pointer (some ⟨x.1, 0, none⟩)

set_option maxHeartbeats 4000000 in
set_option maxRecDepth 100000 in
theorem it2_all (n : Nat) (hn : 1 ≤ n) (Bm Bb Bo mb : Nat) (t0 : Tr Ak Pn) (w : World) (pp : TypeId → Prop)
    (p2 : pp 4) (p3 : pp 106) (p5 : pp 117) (p6 : pp 97) (hm : t0.many ≤ 10000)
    (h1 : w.heap[Bm]? = some (.cells #[.pointer (some ⟨mb, 0, none⟩)] 55 (0, 0))) (h2 : w.heap[Bb]? = some (.cells #[.bool false] 4 (0, 0))) (h3 : w.heap[Bo]? = some (.cells #[.func (.func 53) #[] #[]] 106 (0, 0)))
    (h4 : MapIs2 w mb t0) (h5 : In2 w t0) :
    SeqAll n Tryz.prog 64 #[.pointer (some ⟨Bm, 0, none⟩), .pointer (some ⟨Bb, 0, none⟩), .pointer (some ⟨Bo, 0, none⟩)] (fun x : Ak × Pn => #[x.1.val, x.2.val]) 97 (KeepsTy pp) t0.list w := by
  intro l J W hW hJ hY h0
  have hm1 : W.heap[Bm]? = some (.cells #[.pointer (some ⟨mb, 0, none⟩)] 55 (0, 0)) := (hW.block _ (Tr.lt_of_some h1)).trans h1
  have hm2 : W.heap[Bb]? = some (.cells #[.bool false] 4 (0, 0)) := (hW.block _ (Tr.lt_of_some h2)).trans h2
  have hm3 : W.heap[Bo]? = some (.cells #[.func (.func 53) #[] #[]] 106 (0, 0)) := (hW.block _ (Tr.lt_of_some h3)).trans h3
  have hm4 : MapIs2 W mb t0 := (hW.block _ (Tr.lt_of_some h4)).trans h4
  have hm5 : In2 W t0 := h5.below hW
  have c1 : W.cell? ⟨Bm, 0, none⟩ = some (.pointer (some ⟨mb, 0, none⟩)) := by rw [cell_of_row W Bm _ _ _ (0, 0) hm1]; rfl
  have c2 := hm4.cells.1
  have c3 := hm4.cells.2
  have HM2 := hide hm2
  have HM3 := hide hm3
  have HY := hide hY
  have HJ := hide hJ
  clear h1 h2 h3 h4 h5 hm1 hm2 hm3 hm4 hW hY hJ
  obtain ⟨i0, hi, hz0, hz1, hz2⟩ := info_parts info_NodeP2
  refine callsIn_of_wp Tryz.func64 rfl trivial ?_ rfl
  simp only [Tryz.ntmps64, List.size_toArray, List.length_cons, List.length_nil, Nat.reduceAdd, Nat.reduceSub, Array.replicate_succ, Array.replicate_zero, List.push_toArray, List.append_toArray, List.nil_append, List.cons_append]
  have HN := hide (none2_ok mb 27 W c2)
  refine wpIn_scope_wide ?_
  gi_wp2_with (refine ⟨trivial, ?_⟩; gi_at_call 50; (refine (callsIn_wide.2 (unhide HN)).mono ?_); rintro e w1 ⟨rfl, rfl⟩)
  refine wpIn_label ?_
  gi_wp2
  refine wpIn_wide.2 ?_
  clear c1 c2 c3
  go_loopg [5, 6] t0.many (fun g s p wr => ∃ (pre : List (Ak × Pn)) (st : St2) (t : Tr Ak Pn) (q : Option Addr),
    p = .pointer q ∧ t.ad = q ∧ Hid (t0.list = pre ++ (t.list ++ Tr.restS st)) ∧ (t.list ++ Tr.restS st).length ≤ g ∧ In2 wr t ∧ Tr.StIn 117 en2 wr st ∧
    wr.ownsRow W.heap.size 97 1 s st.length st.ptrs ∧ Hid (J pre wr) ∧ KeepsTy pp W wr ∧ W.heap.size ≤ wr.heap.size)
  case atStart => exact ⟨[], [], t0, t0.ad, rfl, rfl, by show t0.list = _; simp [Tr.restS], by simp [Tr.restS, t0.many_list], hm5, (fun _ h => by cases h), World.ownsRow_nil _ _ _ _, h0, KeepsTy.refl _ _, Nat.le_refl _⟩
  case round =>
    obtain ⟨pre, st, t, q, rfl, hq, hL, hg, ht, hst, hown, hJ', hk, hsz⟩ := hrel
    refine (wpIn_wide (n := n)).1 ?_
    gi_wp2
    refine wpIn_wide.2 ?_
    go_loopg [5, 6, 7, 8] t.many (fun g2 s p near far w2 => ∃ (st2 : St2) (t2 : Tr Ak Pn) (q2 : Option Addr),
      p = .pointer q2 ∧ t2.ad = q2 ∧ Hid (t0.list = pre ++ (t2.list ++ Tr.restS st2)) ∧ Hid ((t2.list ++ Tr.restS st2).length = (t.list ++ Tr.restS st).length) ∧ t2.many ≤ g2 ∧ In2 w2 t2 ∧ Tr.StIn 117 en2 w2 st2 ∧
      w2.ownsRow W.heap.size 97 1 s st2.length st2.ptrs ∧ Hid (J pre w2) ∧ KeepsTy pp W w2 ∧ W.heap.size ≤ w2.heap.size)
    case atStart => exact ⟨st, t, q, rfl, hq, hL, rfl, Nat.le_refl _, ht, hst, hown, hJ', hk, hsz⟩
    case round =>
      clear hL ht hst hown hJ' hk hsz
      obtain ⟨st2, t2, q2, rfl, hq2, hL2, hS2, hg2, ht2, hst2, hown2, hJ2, hk2, hsz2⟩ := hrel
      cases t2 with
      | nil =>
        obtain rfl : none = q2 := hq2
        cases st2 with
        | nil =>
          obtain ⟨A, c, rfl⟩ := own_shape hown2
          have HE : Hid (J t0.list wr) := by
            have h := hL2.out
            simp only [Tr.list, Tr.restS, List.append_nil] at h
            show J _ _
            rw [h]
            exact hJ2.out
          refine (wpIn_wide (n := n)).1 ?_
          gi_wp2
          rw [Exit.noGoto_normal]
          go_end0
          exact ⟨⟨_, rfl⟩, HE.out⟩
        | cons x st3 =>
          obtain ⟨b, k, v, tl, tr⟩ := x
          obtain ⟨g, c, rfl, hgB, hgs⟩ := hown2.form (Nat.succ_pos _)
          have hnd : In2 wr (Tr.node b k v tl tr) := hst2 _ (List.mem_cons_self ..)
          obtain ⟨d0, d1, d2, d3, d4, d5, d6, d7, d8, d9, d10, d11, d12, d13, _, _⟩ := hnd.cells
          have htop : wr.cell? ⟨g, st3.length, none⟩ = some (.pointer (some ⟨b, 0, none⟩)) := by
            rw [hown2.cellAt st3.length (by simp)]
            simp [St2.ptrs]
          have hlen : st3.length ≤ 10000 := by
            have h1 := congrArg List.length hL2.out
            have h2 := restS_le st3
            rw [t0.many_list] at h1
            simp only [List.length_append, Tr.restS, List.length_cons] at h1
            omega
          have b2 : wr.cell? ⟨Bb, 0, none⟩ = some (.bool false) := by rw [cell_of_row wr Bb _ _ _ (0, 0) (hk2 _ _ _ p2 HM2.out)]; rfl
          have hcap : (st3.length : Int) ≤ (c : Int) := by have := own_cap hown2; simp at this; omega
          have hx : pre ++ [(k, v)] <+: t0.list := ⟨tr.list ++ Tr.restS st3, by rw [hL2.out]; simp [Tr.list, Tr.restS]⟩
          obtain ⟨fn, tmps, assign, body, hy, hR⟩ := HY.out pre (k, v) wr.drew (HJ.out.drewN hJ2.out 1) hx
          dsimp only at hy
          have HX := hide hx
          have HOWN := hide hown2
          have HK := hide hk2
          have HST := hide hst2
          have HND := hide hnd
          clear hx hown2 hk2 hst2 hnd ht2
          refine (wpIn_wide (n := n)).1 ?_
          gi_wp2
          gi_region_with ((refine hR.mono ?_; rintro e W3 ⟨rfl, hJ3, hk3⟩))
          all_goals
            have hn3 : In2 W3 (Tr.node b k v tl tr) := hk3.in_ HND.out.drew p5
            have e3 := hn3.cells.2.2.2.2.2.2.2.2.2.2.2.2.2.1
            have HR3 := hide hn3.2.2
            have b3 : W3.cell? ⟨Bb, 0, none⟩ = some (.bool false) := by rw [cell_of_row W3 Bb _ _ _ (0, 0) (hk3 _ _ _ p2 (HK.out _ _ _ p2 HM2.out))]; rfl
            have HO3 := hide (p := W3.ownsRow W.heap.size 97 1 (.slice (some ⟨g, 0, none⟩) (st3.length + 1) c) (st3.length + 1) (St2.ptrs st3 ++ [.pointer (some ⟨b, 0, none⟩)])) (by
              have e : St2.ptrs ((b, k, v, tl, tr) :: st3) = St2.ptrs st3 ++ [.pointer (some ⟨b, 0, none⟩)] := by simp [St2.ptrs]
              rw [← e]
              exact own_keepsTy HOWN.out hk3 p6)
            have HK3 := hide ((HK.out.drew).trans hk3)
            have HS3 := hide (p := Tr.StIn 117 en2 W3 st3) (fun x hx => hk3.in_ (HST.out x (List.mem_cons_of_mem _ hx)).drew p5)
            have HJ3 := hide hJ3
            clear hn3 hJ3 hk3 hy hR
            gi_wp2
            go_roundg (tr.list ++ Tr.restS st3).length
            case measure =>
              have h := hS2.out
              simp only [Tr.list, Tr.restS, List.nil_append, List.length_cons] at h
              omega
            case rel =>
              refine ⟨pre ++ [(k, v)], st3, tr, tr.ad, rfl, rfl, ?_, Nat.le_refl _, HR3.out, HS3.out, ?_, HJ3, HK3.out, ?_⟩
              · show _ = _
                rw [hL2.out]
                simp [Tr.list, Tr.restS]
              · exact ownsRow_pop (by simp [St2.ptrs]) HO3.out
              · obtain ⟨_, _, he, h1, h2⟩ := HO3.out.form (Nat.succ_pos _)
                omega
      | node b k v tl tr =>
        obtain rfl : some ⟨b, 0, none⟩ = q2 := hq2
        obtain ⟨A, c, rfl⟩ := own_shape hown2
        obtain ⟨d0, d1, d2, d3, d4, d5, d6, d7, d8, d9, d10, d11, d12, d13, _, _⟩ := ht2.cells
        have ktl : In2 wr tl := ht2.2.1
        have b2 : wr.cell? ⟨Bb, 0, none⟩ = some (.bool false) := by rw [cell_of_row wr Bb _ _ _ (0, 0) (hk2 _ _ _ p2 HM2.out)]; rfl
        have b3 : wr.cell? ⟨Bo, 0, none⟩ = some (.func (.func 53) #[] #[]) := by rw [cell_of_row wr Bo _ _ _ (0, 0) (hk2 _ _ _ p3 HM3.out)]; rfl
        have HF := hide fun (W9 : World) => allF2_below k W9
        have HT := hide ht2
        clear ht2
        go_wp2_with fail
        go_quiet (fail)
        go_wp2_with fail
        obtain ⟨Wq, hWq⟩ : ∃ Wq, Wq = wr.drewN nq := ⟨_, rfl⟩
        rw [← hWq]
        have e0 : Wq.cell? ⟨b, 0, none⟩ = some (.string k.key) := by rw [hWq]; exact d0
        have e1 : Wq.cell? ⟨b, 1, none⟩ = some (.int .i64 k.s) := by rw [hWq]; exact d1
        have e2 : Wq.cell? ⟨b, 2, none⟩ = some (.int .i64 k.e) := by rw [hWq]; exact d2
        have e3 : Wq.cell? ⟨Bo, 0, none⟩ = some (.func (.func 53) #[] #[]) := by rw [hWq]; exact b3
        have HWq := hide (p := Below wr.heap.size wr Wq) (by rw [hWq]; exact below_drewN (Below.refl _ _) _)
        clear hWq b3
        go_region_held3 (fun w0 => w0.cell? ⟨b, 0, none⟩ = some (.string k.key) ∧ w0.cell? ⟨b, 1, none⟩ = some (.int .i64 k.s) ∧ w0.cell? ⟨b, 2, none⟩ = some (.int .i64 k.e) ∧ w0.cell? ⟨Bo, 0, none⟩ = some (.func (.func 53) #[] #[])) (first | exact ⟨kd e0, kd e1, kd e2, kd e3⟩ | exact ⟨below_cell hb1 (kd e0), below_cell hb1 (kd e1), below_cell hb1 (kd e2), below_cell hb1 (kd e3)⟩)
          ((go_at_call 53; (with_reducible refine (unhide HF _).mono ?_); rintro e Wr ⟨rfl, hb1⟩))
        have hj : Below wr.heap.size wr Wr := HWq.out.drew.trans (hb1.mono HWq.out.size)
        have ktr : In2 Wr tl := ktl.below hj
        have hownr : Wr.ownsRow W.heap.size 97 1 (.slice A st2.length c) st2.length st2.ptrs := own_keepsTy (p := fun _ => True) hown2 (KeepsTy.below hj) trivial
        have hJr : Hid (J pre Wr) := HJ.out.below hJ2.out hj
        have hkr : KeepsTy pp W Wr := hk2.trans (KeepsTy.below hj)
        have hszr : W.heap.size ≤ Wr.heap.size := Nat.le_trans hsz2 hj.size
        have hTr : Hid (In2 Wr (Tr.node b k v tl tr)) := HT.out.below hj
        have hstr : Tr.StIn 117 en2 Wr st2 := hst2.keep fun _ h => h.below hj
        have hlen : st2.length ≤ 10000 := by
          have h1 := congrArg List.length hL2.out
          have h2 := restS_le st2
          rw [t0.many_list] at h1
          simp only [List.length_append] at h1
          omega
        clear hj hb1 HWq e0 e1 e2 e3 b2 d0 d1 d2 d3 d4 d5 d6 d7 d8 d9 d10 d11 d12 d13 ktl hown2 hJ2 hk2 hsz2 hst2
        have HK := hide hkr
        have HST := hide hstr
        have HKT := hide ktr
        clear hkr hstr ktr
        go_wp2_with (at_builtin; refine wpList_append_own _ rfl _ _ 120 rfl W.heap.size 97 i0 (.pointer none) 1 8 Tryz.underlying120 hi hz0 hz1 hz2 rfl (by decide) _ _ _ rfl (hownr.alloc _) ⟨Wr.heap.size, 0, none⟩ 1 1 [.pointer (some ⟨b, 0, none⟩)] rfl rfl (cell_one_new _ _ _) (by simp [Value.oneCell']) (by unfold maxLen; omega) (by omega) (by simp; omega) ?_; intro v' w1 hown' hgrow _)
        go_roundg tl.many
        case measure =>
          have : tl.many + tr.many + 1 ≤ gk := hg2
          omega
        case rel =>
          have ha := hownr.alloc (Obj.cells #[.pointer (some ⟨b, 0, none⟩)] 97)
          refine ⟨(b, k, v, tl, tr) :: st2, tl, tl.ad, rfl, rfl, ?_, ?_, Nat.le_refl _, ?_, ?_, ?_, ?_, ?_, ?_⟩
          · have h := hL2.out
            simp only [Tr.list, Tr.restS] at h ⊢
            show _ = _
            rw [h]
            simp
          · have h := hS2.out
            show _ = _
            rw [← h]
            simp [Tr.list, Tr.restS]
          · exact in_append ha hgrow (by decide) (HKT.out.alloc _)
          · intro x hx
            rcases List.mem_cons.1 hx with rfl | hx
            · exact in_append ha hgrow (by decide) (hTr.out.alloc _)
            · exact in_append ha hgrow (by decide) ((HST.out x hx).alloc _)
          · have e : (St2.ptrs ((b, k, v, tl, tr) :: st2)) = St2.ptrs st2 ++ [.pointer (some ⟨b, 0, none⟩)] := by simp [St2.ptrs]
            rw [e]
            exact hown'
          · exact HJ.out.append (HJ.out.alloc hJr.out _) ha hgrow
          · exact (HK.out.alloc _).append (by simp; omega) ha hgrow
          · have := hgrow.size
            simp at this
            omega
end Go.Proofs.YtciahchpdmajbaaGreatDoor
