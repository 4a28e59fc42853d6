/- The document's Last: of each key and window the last pane, in order. -/
import Derived.Test.YtciahchpdmajbaaGreatDoorRPlain
import Derived.Test.YtciahchpdmajbaaGreatDoorAlike
import Derived.Test.YtciahchpdmajbaaGreatDoorRBegins
namespace Go.Proofs.YtciahchpdmajbaaGreatDoor
open Go.RowKit
attribute [local go_sem ↓] Go.wp_at_zero Go.wp_at_succ

abbrev bare (a : Ak) : Pn := ⟨a.key, a.s, a.e, 0, 0, 0, 0, 0, 0⟩
abbrev spans (a : Ak) : Array Value := #[.int .i64 a.s, .int .i64 a.e, .int .i64 0, .int .i64 0, .int .i64 0, .int .i64 0, .int .i64 0, .int .i64 0]
theorem spans_at (a b : Ak) (q : Nat) (hq : q < 8) : ∃ u v, (spans a)[q]? = some (.int .i64 u) ∧ (spans b)[q]? = some (.int .i64 v) ∧ ((q = 0 ∧ u = a.s ∧ v = b.s) ∨ (q = 1 ∧ u = a.e ∧ v = b.e) ∨ (2 ≤ q ∧ u = 0 ∧ v = 0)) := by
  match q, hq with
  | 0, _ => exact ⟨_, _, rfl, rfl, .inl ⟨rfl, rfl, rfl⟩⟩
  | 1, _ => exact ⟨_, _, rfl, rfl, .inr (.inl ⟨rfl, rfl, rfl⟩)⟩
  | 2, _ => exact ⟨_, _, rfl, rfl, .inr (.inr ⟨by omega, rfl, rfl⟩)⟩
  | 3, _ => exact ⟨_, _, rfl, rfl, .inr (.inr ⟨by omega, rfl, rfl⟩)⟩
  | 4, _ => exact ⟨_, _, rfl, rfl, .inr (.inr ⟨by omega, rfl, rfl⟩)⟩
  | 5, _ => exact ⟨_, _, rfl, rfl, .inr (.inr ⟨by omega, rfl, rfl⟩)⟩
  | 6, _ => exact ⟨_, _, rfl, rfl, .inr (.inr ⟨by omega, rfl, rfl⟩)⟩
  | 7, _ => exact ⟨_, _, rfl, rfl, .inr (.inr ⟨by omega, rfl, rfl⟩)⟩
theorem alloc4 (w : World) (a b c d : Obj) : ((((w.alloc a).alloc b).alloc c).alloc d).heap[w.heap.size + 1 + 1]? = some c ∧ ((((w.alloc a).alloc b).alloc c).alloc d).heap[w.heap.size + 1 + 1 + 1]? = some d ∧ Below w.heap.size w ((((w.alloc a).alloc b).alloc c).alloc d) := by
  have n1 : ∀ (w : World) (o : Obj) (s : Nat), w.heap.size = s → (w.alloc o).heap[s]? = some o := fun w o s h => by subst h; exact heap_alloc_new w o
  refine ⟨?_, ?_, ((((Below.refl _ w).alloc (Nat.le_refl _) _).alloc (by simp) _).alloc (by simp; omega) _).alloc (by simp; omega) _⟩
  · exact (Below.heap_alloc _ _ _ (by simp)).trans (n1 _ _ _ (by simp))
  · exact n1 _ _ _ (by simp)
set_option maxHeartbeats 4000000 in
set_option maxRecDepth 100000 in
theorem rcompare_bare (a b : Ak) (w : World) : Calls Tryz.prog 34 #[(bare a).val, (bare b).val] w fun e w' => e = .returned (.int .i64 (acmp a b)) ∧ Below w.heap.size w w' := by
  by_cases hless : Op.bytesLess a.key.toList b.key.toList = true
  · have hr : Hid (acmp a b = -1) := by
      show _ = _
      simp [acmp, scmp_lt hless]
    go_enter Tryz.func34, Tryz.ntmps34
    go_wp2
    go_ret
    exact ⟨ret_int hr.out.symm, (((Below.refl _ w).alloc (Nat.le_refl _) _).alloc (by simp) _)⟩
  · have hless' : Op.bytesLess a.key.toList b.key.toList = false := by simpa using hless
    clear hless
    by_cases heq : (a.key.toList == b.key.toList) = true
    · have hkey : a.key = b.key := toList_inj (by simpa using heq)
      have hac : Hid (acmp a b = if icmp a.s b.s ≠ 0 then icmp a.s b.s else icmp a.e b.e) := by
        show _ = _
        simp [acmp, hkey, scmp_self]
      have H4 := hide (alloc4 w)
      clear hkey
      go_enter Tryz.func34, Tryz.ntmps34
      go_wp2
      go_loopw [7] (fun i wr => ∃ q : Nat, q ≤ 8 ∧ i = .int .i64 q ∧ wr.heap[w.heap.size + 1 + 1]? = some (.cells (spans a) 2 (0, 0)) ∧ wr.heap[w.heap.size + 1 + 1 + 1]? = some (.cells (spans b) 2 (0, 0)) ∧ Below w.heap.size w wr ∧ Hid ((1 ≤ q → a.s = b.s) ∧ (2 ≤ q → a.e = b.e))) (fun i _ => 8 - (intOf i).toNat)
      case atStart => exact ⟨0, Nat.zero_le _, rfl, (H4.out _ _ _ _).1, (H4.out _ _ _ _).2.1, (H4.out _ _ _ _).2.2, ⟨fun h => by omega, fun h => by omega⟩⟩
      case round =>
        obtain ⟨q, hq, rfl, hx, hy, hb, hpre⟩ := hrel
        by_cases hlt : q < 8
        · obtain ⟨u, v, hu, hv, huv⟩ := spans_at a b q hlt
          have x0 : wr.cell? ⟨w.heap.size + 1 + 1, q, none⟩ = some (.int .i64 u) := by rw [cell_of_row wr _ _ _ _ (0, 0) hx]; exact hu
          have y0 : wr.cell? ⟨w.heap.size + 1 + 1 + 1, q, none⟩ = some (.int .i64 v) := by rw [cell_of_row wr _ _ _ _ (0, 0) hy]; exact hv
          have HUV := hide huv
          have HX := hide hx
          have HY := hide hy
          clear hu hv huv hx hy
          rcases Int.lt_trichotomy u v with huv | huv | huv
          · have hr : Hid (acmp a b = -1) := by
              show _ = _
              rw [hac.out]
              rcases HUV.out with ⟨_, rfl, rfl⟩ | ⟨h, rfl, rfl⟩ | ⟨_, rfl, rfl⟩
              · rw [icmp_lt huv]; rfl
              · rw [icmp_lt huv, hpre.out.1 (by omega), icmp_eq (Int.le_refl _) (Int.le_refl _)]; rfl
              · omega
            go_wp2_with fail
            go_quiet (fail)
            go_wp2_with fail
            go_ret
            exact ⟨ret_int hr.out.symm, below_drewN hb _⟩
          · have hnext : Hid ((1 ≤ q + 1 → a.s = b.s) ∧ (2 ≤ q + 1 → a.e = b.e)) := by
              rcases HUV.out with ⟨h, rfl, rfl⟩ | ⟨h, rfl, rfl⟩ | ⟨h, rfl, rfl⟩
              · exact ⟨fun _ => huv, fun h2 => by omega⟩
              · exact ⟨fun _ => hpre.out.1 (by omega), fun _ => huv⟩
              · exact ⟨fun _ => hpre.out.1 (by omega), fun _ => hpre.out.2 h⟩
            clear HUV
            subst huv
            go_wp2_with fail
            go_quiet (fail)
            go_wp2_with fail
            go_quiet (fail)
            go_wp2_with fail
            go_roundw
            case rel => exact ⟨q + 1, by omega, by go_num, HX.out, HY.out, below_drewN hb _, hnext⟩
            case measure => simp [intOf]; omega
          · have hr : Hid (acmp a b = 1) := by
              show _ = _
              rw [hac.out]
              rcases HUV.out with ⟨_, rfl, rfl⟩ | ⟨h, rfl, rfl⟩ | ⟨_, rfl, rfl⟩
              · rw [icmp_gt huv]; rfl
              · rw [icmp_gt huv, hpre.out.1 (by omega), icmp_eq (Int.le_refl _) (Int.le_refl _)]; rfl
              · omega
            go_wp2_with fail
            go_quiet (fail)
            go_wp2_with fail
            go_quiet (fail)
            go_wp2_with fail
            go_ret
            exact ⟨ret_int hr.out.symm, below_drewN (below_drewN hb _) _⟩
        · have hr : Hid (acmp a b = 0) := by
            show _ = _
            rw [hac.out, hpre.out.1 (by omega), hpre.out.2 (by omega), icmp_eq (Int.le_refl _) (Int.le_refl _), icmp_eq (Int.le_refl _) (Int.le_refl _)]
            rfl
          go_wp2_with fail
          go_ret
          exact ⟨ret_int hr.out.symm, hb⟩
    · have heq' : (a.key.toList == b.key.toList) = false := by simpa using heq
      have hr : Hid (acmp a b = 1) := by
        show _ = _
        simp [acmp, scmp_gt hless' (by rw [heq']; rfl)]
      clear heq
      go_enter Tryz.func34, Tryz.ntmps34
      go_wp2
      go_ret
      exact ⟨ret_int hr.out.symm, (((Below.refl _ w).alloc (Nat.le_refl _) _).alloc (by simp) _)⟩
end Go.Proofs.YtciahchpdmajbaaGreatDoor

namespace Go.Proofs.YtciahchpdmajbaaGreatDoor
open Go.RowKit

theorem lst_own_from : ∀ (ps : List Pn) (G : List (Ak × Pn)), Srt acmp G → (∀ x ∈ G, akOf x.2 = x.1) → ∀ x ∈ ps.foldl (fun G p => insA acmp (akOf p) p G) G, akOf x.2 = x.1
  | [], _, _, h => h
  | p :: ps, G, hs, h => by
    refine lst_own_from ps _ (insA_srt ordA hs) fun x hx => ?_
    rcases mem_insA ordA hs hx with rfl | ⟨hx, _⟩
    · rfl
    · exact h x hx
theorem lst_own (ps : List Pn) : ∀ x ∈ lst ps, akOf x.2 = x.1 := lst_own_from ps [] .nil (fun _ h => by cases h)
theorem fin_ne {ps : List Pn} {k : Nat} {p : Pn} (hp : ps[k]? = some p) {x : Pn} (hx : x ∈ lastOf (fin ps k)) : akOf x ≠ akOf p := by
  obtain ⟨y, hy, rfl⟩ := List.mem_map.1 hx
  rw [lst_own _ y hy]
  exact fin_new ps hp y hy
theorem fin_step {ps : List Pn} {k : Nat} {p : Pn} (hp : ps[k]? = some p) (hl : later ps k = false) (q : Nat) (h1 : ∀ x ∈ (lastOf (fin ps k)).take q, acmp (akOf x) (akOf p) = -1)
    (h2 : ∀ x, (lastOf (fin ps k))[q]? = some x → acmp (akOf p) (akOf x) = -1) : lastOf (fin ps (k + 1)) = (lastOf (fin ps k)).take q ++ p :: (lastOf (fin ps k)).drop q := by
  show (lst (fin ps (k + 1))).map Prod.snd = _
  rw [fin_snoc hp hl, lst_snoc, insA_new ordA q (fun y hy => ?_) (fun y hy => ?_)]
  · simp
  · rw [← lst_own _ y (List.mem_of_mem_take hy)]
    exact h1 y.2 (by rw [← List.map_take]; exact List.mem_map_of_mem hy)
  · rw [← lst_own _ y (List.mem_of_getElem? hy)]
    exact h2 y.2 (by rw [List.getElem?_map, hy]; rfl)
theorem later_any {ps : List Pn} {k : Nat} {p : Pn} (hp : ps[k]? = some p) : later ps k = (ps.drop (k + 1)).any fun q => akOf q = akOf p := by simp [later, hp]
theorem fin_length (ps : List Pn) : ∀ k, (fin ps k).length ≤ k
  | 0 => by simp [fin]
  | k + 1 => by
    have h := fin_length ps k
    simp only [fin]
    split
    · omega
    · rw [List.length_append]
      have : (ps[k]?).toList.length ≤ 1 := by cases ps[k]? <;> simp
      omega

theorem Rd.block {w w' : World} {g o : Nat} {ps : List Pn} (h : Rd w (some ⟨g, o, none⟩) ps) (hb : w'.heap[g]? = w.heap[g]?) : Rd w' (some ⟨g, o, none⟩) ps := fun i hi => by
  obtain ⟨b, o', hA, hc⟩ := h i hi
  injection hA with e
  injection e with e1 e2
  subst e1 e2
  exact ⟨g, o, rfl, fun j u hu => by rw [World.cell?_of_block (w := w) hb]; exact hc j u hu⟩
theorem Rd.drop {w : World} {g : Nat} {ps : List Pn} (h : Rd w (some ⟨g, 0, none⟩) ps) (q : Nat) : Rd w (some ⟨g, q * 9, none⟩) (ps.drop q) := fun i hi => by
  have h1 : q + i < ps.length := by rw [List.length_drop] at hi; omega
  obtain ⟨b, o', hA, hc⟩ := h (q + i) h1
  injection hA with e
  injection e with e1 e2
  subst e1 e2
  refine ⟨g, q * 9, rfl, fun j u hu => ?_⟩
  rw [List.getElem_drop] at hu
  have h2 := hc j u hu
  rw [show 0 + (q + i) * 9 + j = q * 9 + i * 9 + j by omega] at h2
  exact h2
set_option maxRecDepth 100000 in
theorem span_eql (a b c d : Int) : ∀ w : World, (binOp .eql 35 (.agg #[.int .i64 a, .int .i64 b]) (.agg #[.int .i64 c, .int .i64 d])).run Tryz.prog w = .ok (.bool (decide (a = c) && decide (b = d))) w := fun w => by
  go_simp
  by_cases h1 : a = c <;> by_cases h2 : b = d <;> simp [h1, h2]
end Go.Proofs.YtciahchpdmajbaaGreatDoor

namespace Go.Proofs.YtciahchpdmajbaaGreatDoor
open Go.RowKit
attribute [local go_sem ↓] Go.wp_at_zero Go.wp_at_succ

set_option maxHeartbeats 8000000 in
set_option maxRecDepth 100000 in
theorem rlast_any (A : Option Addr) (n c : Nat) (ps : List Pn) (w : World) (hn : ps.length = n) (hR : Rd w A ps) (hlen : n ≤ 10000) :
    Calls Tryz.prog 10 #[.slice A n c] w (OfDone (lastOf ps) w) := by
  obtain ⟨i0, hi, hz0, hz1, hz2⟩ := info_parts info_Pane
  have HR := hide hR
  have HN := hide hn
  clear hR hn
  go_enter Tryz.func10, Tryz.ntmps10
  go_wp2
  go_loopw [3, 4] (fun v i wr => ∃ k : Nat, k ≤ n ∧ i = .int .i64 k ∧ Below w.heap.size w wr ∧ ∃ fs : List Pn, Hid (fs = lastOf (fin ps k)) ∧ fs.length ≤ k ∧ wr.ownsRow w.heap.size 40 9 v fs.length (cellsOf fs)) (fun _ i _ => n - (intOf i).toNat)
  case atStart => exact ⟨0, Nat.zero_le _, rfl, Below.refl _ _, [], rfl, Nat.le_refl _, World.ownsRow_nil _ _ _ _⟩
  case round =>
    obtain ⟨k, hk, rfl, hb, fs, hfs, hfl, hown⟩ := hrel
    obtain ⟨W0, hW0⟩ : ∃ W0, W0 = wr := ⟨wr, rfl⟩
    subst hW0
    by_cases hlt : k < n
    · obtain ⟨b, o, hA, e0, e1, e2, e3, e4, e5, e6, e7, e8⟩ := (HR.out.keep hb).at_ (i := k) (by rw [HN.out]; exact hlt)
      obtain rfl := hA
      obtain ⟨p, hp⟩ : ∃ p, p = ps[k]'(by rw [HN.out]; exact hlt) := ⟨_, rfl⟩
      rw [← hp] at e0 e1 e2 e3 e4 e5 e6 e7 e8
      have HP : Hid (ps[k]? = some p) := by
        show _ = _
        rw [hp]
        exact List.getElem?_eq_getElem (by rw [HN.out]; exact hlt)
      clear hp
      have HRW := hide (HR.out.keep hb)
      obtain ⟨A0, c0, rfl⟩ := own_shape hown
      obtain ⟨m, hm⟩ : ∃ m, m = fs.length := ⟨_, rfl⟩
      rw [← hm] at hown hfl ⊢
      have HM := hide hm
      have HO := hide hown
      clear hm
      go_wp2_with fail
      go_loopw [5, 6] (fun l i w2 => ∃ (j d : Nat) (lt : Bool), k + 1 ≤ j ∧ j ≤ n ∧ i = .int .i64 j ∧ l = .bool lt ∧ w2 = W0.drewN d ∧ Hid (lt = ((ps.take j).drop (k + 1)).any fun q => akOf q = akOf p)) (fun _ i _ => n - (intOf i).toNat)
      case atStart => exact ⟨k + 1, 0, false, Nat.le_refl _, hlt, by go_num, rfl, rfl, by show _ = _; simp⟩
      case round =>
        obtain ⟨j, d, lt, hj1, hj2, rfl, rfl, hw, hlat⟩ := hrel
        by_cases hjn : j < n
        · obtain ⟨b', o', hA, x0, x1, x2, _⟩ := HRW.out.at_ (i := j) (by rw [HN.out]; exact hjn)
          injection hA with hA
          injection hA with hA1 hA2
          subst hA1 hA2
          obtain ⟨y, hy⟩ : ∃ y, y = ps[j]'(by rw [HN.out]; exact hjn) := ⟨_, rfl⟩
          rw [← hy] at x0 x1 x2
          have hnext : Hid (((ps.take (j + 1)).drop (k + 1)).any (fun q => akOf q = akOf p) = (lt || decide (akOf y = akOf p))) := by
            show _ = _
            rw [take_snoc ps j (by rw [HN.out]; exact hjn), List.drop_append_of_le_length (by rw [List.length_take, HN.out]; omega), List.any_append, ← hlat.out, ← hy]
            simp
          clear hy hlat
          subst hw
          have HSE := span_eql y.s y.e p.s p.e
          cases lt with
          | true =>
            have hn2 : Hid (((ps.take (j + 1)).drop (k + 1)).any (fun q => akOf q = akOf p) = true) := by show _ = _; rw [hnext.out]; rfl
            clear hnext
            go_wp2_with fail
            go_quiet (fail)
            go_wp2_with fail
            go_roundw
            case rel => exact ⟨j + 1, _, true, by omega, by omega, by go_num, rfl, rfl, hn2.out.symm⟩
            case measure => simp [intOf]; omega
          | false =>
            by_cases heq : (y.key.toList == p.key.toList) = true
            · have hky : y.key = p.key := toList_inj (by simpa using heq)
              have hn2 : Hid (((ps.take (j + 1)).drop (k + 1)).any (fun q => akOf q = akOf p) = (decide (y.s = p.s) && decide (y.e = p.e))) := by
                show _ = _
                rw [hnext.out, Bool.false_or, akOf, akOf, hky]
                simp
              clear hnext hky
              obtain ⟨sp, hsp⟩ : ∃ sp, sp = (decide (y.s = p.s) && decide (y.e = p.e)) := ⟨_, rfl⟩
              rw [← hsp] at hn2 HSE
              clear hsp
              go_wp2_with fail
              go_quiet (fail)
              go_wp2_with fail
              go_roundw
              case rel => exact ⟨j + 1, _, sp, by omega, by omega, by go_num, rfl, rfl, hn2.out.symm⟩
              case measure => simp [intOf]; omega
            · have heq' : (y.key.toList == p.key.toList) = false := by simpa using heq
              have hn2 : Hid (((ps.take (j + 1)).drop (k + 1)).any (fun q => akOf q = akOf p) = false) := by
                show _ = _
                rw [hnext.out, Bool.false_or, decide_eq_false_iff_not]
                intro h
                apply heq
                have : y.key = p.key := by have := congrArg Ak.key h; exact this
                rw [this]
                simp
              clear hnext heq
              go_wp2_with fail
              go_quiet (fail)
              go_wp2_with fail
              go_roundw
              case rel => exact ⟨j + 1, _, false, by omega, by omega, by go_num, rfl, rfl, hn2.out.symm⟩
              case measure => simp [intOf]; omega
        · have hl : Hid (later ps k = lt) := by
            show _ = _
            rw [later_any HP.out, hlat.out, List.take_of_length_le (by rw [HN.out]; omega)]
          clear hlat
          subst hw
          cases lt with
          | true =>
            go_wp2_with fail
            go_roundw
            case rel => exact ⟨k + 1, by omega, by go_num, below_drewN hb _, fs, by show _ = _; rw [fin_stay hl.out]; exact hfs.out, by have := HM.out; omega, HM.out ▸ HO.out⟩
            case measure => simp [intOf]; omega
          | false =>
            rcases own_two HO.out with ⟨hv, hm0, hx0⟩ | ⟨g, cap, hv, hBg, hgl, hcap⟩
            · injection hv with hv1 _ hv2
              subst hv1 hv2 hm0
              obtain rfl : fs = [] := List.eq_nil_of_length_eq_zero HM.out.symm
              have HLAT := hide hl.out
              go_wp2_with fail
              go_loopw [7] (fun i w2 => ∃ d : Nat, i = .int .i64 0 ∧ w2 = W0.drewN d) (fun _ _ => 0)
              case atStart => exact ⟨_, rfl, rfl⟩
              case round =>
                obtain ⟨d, rfl, rfl⟩ := hrel
                go_wp2_with fail
                go_quiet (fail)
                go_wp2_with (at_builtin; refine wpList_append_own _ rfl _ _ 22 rfl W0.heap.size 40 i0 zeroPane 9 80 Tryz.underlying22 hi hz0 hz1 hz2 rfl (by decide) _ _ _ rfl (World.ownsRow_nil _ _ _ _) ⟨W0.heap.size, 0, none⟩ 1 1 p.cells rfl rfl (pn_news rfl p) (pn_one p) (by decide) (by decide) (by simp) ?_; intro v2 w2 h2 hg2 _; obtain ⟨g2, cap2, rfl, hB2, hlt2⟩ := h2.form (Nat.succ_pos _); have hcap2 := own_cap h2; replace hg2 : ((W0.drewN _).alloc (.cells p.cells.toArray 40)).grownBy w2 none := hg2)
                go_roundw
                case rel =>
                  have hb2 := ((below_drewN hb _).alloc hb.size (.cells p.cells.toArray 40)).grown hg2 (by have := hb.size; simp; omega) (fun r hr => by cases hr)
                  refine ⟨k + 1, by omega, by go_num, hb2, [p], ?_, by simp, ?_⟩
                  · show _ = _
                    have hkk := hfs.out
                    have h9 := fin_step HP.out HLAT.out 0 (fun x hx => by simp at hx) (fun x hx => by rw [← hkk] at hx; cases hx)
                    rw [← hkk] at h9
                    rw [h9]
                    rfl
                  · have h4 := own_mono h2 hb.size
                    rw [cellsOf_one]
                    exact h4
                case measure => simp [intOf]; omega
            · injection hv with hv1 _ hv2
              subst hv1 hv2
              have hgs : fs.length = m := HM.out.symm
              have HRF := hide (rd_row HO.out hgs)
              have HGL := hide hgl
              have HLAT := hide hl.out
              go_wp2_with fail
              go_loopw [7] (fun i w2 => ∃ q : Nat, q ≤ m ∧ i = .int .i64 q ∧ Below W0.heap.size W0 w2 ∧ Hid (∀ x ∈ fs.take q, acmp (akOf x) (akOf p) = -1)) (fun i _ => m - (intOf i).toNat)
              case atStart => exact ⟨0, Nat.zero_le _, rfl, below_drewN (Below.refl _ _) _, fun x hx => by simp at hx⟩
              case round =>
                obtain ⟨q, hq, rfl, hbv, hless⟩ := hrel
                by_cases hqm : q < m
                · obtain ⟨b2, o2, hA, y0, y1, y2, _⟩ := (HRF.out.keep hbv).at_ (i := q) (by omega)
                  injection hA with hA
                  injection hA with hA1 hA2
                  subst hA1 hA2
                  obtain ⟨f, hf⟩ : ∃ f, f = fs[q]'(by omega) := ⟨_, rfl⟩
                  rw [← hf] at y0 y1 y2
                  simp only [Nat.zero_add] at y0 y1 y2
                  have x0 := below_cell hbv e0
                  have x1 := below_cell hbv e1
                  have x2 := below_cell hbv e2
                  have HC := rcompare_bare (akOf f) (akOf p) wr.drew
                  have HF : Hid (fs[q]? = some f) := by
                    show _ = _
                    rw [hf]
                    exact List.getElem?_eq_getElem (by omega)
                  clear hf
                  rcases ordA.cases (akOf f) (akOf p) with hc | hc | hc
                  · rw [hc] at HC
                    have HC2 : Hid (Calls Tryz.prog 34 #[(bare ⟨f.key, f.s, f.e⟩).val, (bare ⟨p.key, p.s, p.e⟩).val] wr.drew fun e w' => e = .returned (.int .i64 (-1)) ∧ Below wr.heap.size wr.drew w') := HC
                    have HCC := hide hc
                    clear HC hc
                    go_wp2_with fail
                    go_region_held3 (fun w0 => w0.cell? ⟨g, q * 9, none⟩ = some (.string f.key) ∧ w0.cell? ⟨g, q * 9 + 1, none⟩ = some (.int .i64 f.s) ∧ w0.cell? ⟨g, q * 9 + 2, none⟩ = some (.int .i64 f.e) ∧ w0.cell? ⟨b, o + k * 9, none⟩ = some (.string p.key) ∧ w0.cell? ⟨b, o + k * 9 + 1, none⟩ = some (.int .i64 p.s) ∧ w0.cell? ⟨b, o + k * 9 + 2, none⟩ = some (.int .i64 p.e))
                      (first | exact ⟨kd y0, kd y1, kd y2, kd x0, kd x1, kd x2⟩ | exact ⟨below_cell hbc (kd y0), below_cell hbc (kd y1), below_cell hbc (kd y2), below_cell hbc (kd x0), below_cell hbc (kd x1), below_cell hbc (kd x2)⟩)
                      ((go_at_call 34; (with_reducible refine (unhide HC2).mono ?_); rintro e V ⟨rfl, hbc⟩))
                    all_goals
                      go_wp2_with fail
                      go_roundw
                      case rel =>
                        refine ⟨q + 1, by omega, by go_num, hbv.trans ((Below.refl _ wr).drew.trans hbc |>.mono hbv.size), fun x hx => ?_⟩
                        rw [take_snoc fs q (by omega), List.mem_append] at hx
                        rcases hx with hx | hx
                        · exact hless.out x hx
                        · have h1 := HF.out
                          rw [List.getElem?_eq_getElem (by omega)] at h1
                          injection h1 with h1
                          rw [List.mem_singleton.1 hx, h1]
                          exact HCC.out
                      case measure => simp [intOf]; omega
                  · exact absurd (ordA.zero _ _ hc) (fin_ne HP.out (by rw [← hfs.out]; exact List.mem_of_getElem? HF.out))
                  · rw [hc] at HC
                    have HC2 : Hid (Calls Tryz.prog 34 #[(bare ⟨f.key, f.s, f.e⟩).val, (bare ⟨p.key, p.s, p.e⟩).val] wr.drew fun e w' => e = .returned (.int .i64 1) ∧ Below wr.heap.size wr.drew w') := HC
                    have HCC := hide hc
                    clear HC hc
                    go_wp2_with fail
                    go_region_held3 (fun w0 => w0.cell? ⟨g, q * 9, none⟩ = some (.string f.key) ∧ w0.cell? ⟨g, q * 9 + 1, none⟩ = some (.int .i64 f.s) ∧ w0.cell? ⟨g, q * 9 + 2, none⟩ = some (.int .i64 f.e) ∧ w0.cell? ⟨b, o + k * 9, none⟩ = some (.string p.key) ∧ w0.cell? ⟨b, o + k * 9 + 1, none⟩ = some (.int .i64 p.s) ∧ w0.cell? ⟨b, o + k * 9 + 2, none⟩ = some (.int .i64 p.e))
                      (first | exact ⟨kd y0, kd y1, kd y2, kd x0, kd x1, kd x2⟩ | exact ⟨below_cell hbc (kd y0), below_cell hbc (kd y1), below_cell hbc (kd y2), below_cell hbc (kd x0), below_cell hbc (kd x1), below_cell hbc (kd x2)⟩)
                      ((go_at_call 34; (with_reducible refine (unhide HC2).mono ?_); rintro e V ⟨rfl, hbc⟩))
                    all_goals
                      have HVV := hide (hbv.trans ((Below.refl _ wr).drew.trans hbc |>.mono hbv.size))
                      clear x0 x1 x2 y0 y1 y2 hbc
                      replace e0 := below_cell HVV.out e0
                      replace e1 := below_cell HVV.out e1
                      replace e2 := below_cell HVV.out e2
                      replace e3 := below_cell HVV.out e3
                      replace e4 := below_cell HVV.out e4
                      replace e5 := below_cell HVV.out e5
                      replace e6 := below_cell HVV.out e6
                      replace e7 := below_cell HVV.out e7
                      replace e8 := below_cell HVV.out e8
                      have HRV := hide (HRF.out.keep HVV.out)
                      have hsV : W0.heap.size ≤ V.heap.size := HVV.out.size
                      have hgV : g < V.heap.size := Nat.lt_of_lt_of_le HGL.out hsV
                      go_wp2_with (at_builtin; first
                        | (refine wpList_append_own _ rfl _ _ 22 rfl V.heap.size 40 i0 zeroPane 9 80 Tryz.underlying22 hi hz0 hz1 hz2 rfl (by decide) _ _ _ rfl h2 ⟨g, q * 9, none⟩ (m - q) (c0 - q) (cellsOf (fs.drop q)) rfl (by rw [cellsOf_length, List.length_drop, ← HM.out]) ((HRV.out.block (far_block hg1 h1 hg2 hgV)).drop q).news (cellsOf_one' _) (by unfold maxLen; omega) (by omega) (by have h8 := hg1.size; have h9 := hg2.size; rw [World.size_alloc] at h9; omega) ?_; intro v3 w3 h3 hg3 _)
                        | (refine wpList_append_own _ rfl _ _ 22 rfl V.heap.size 40 i0 zeroPane 9 80 Tryz.underlying22 hi hz0 hz1 hz2 rfl (by decide) _ _ _ rfl (h1.alloc (.cells p.cells.toArray 40)) ⟨w1.heap.size, 0, none⟩ 1 1 p.cells rfl rfl (pn_news rfl p) (pn_one p) (by unfold maxLen; omega) (by omega) (by have h8 := hg1.size; rw [World.size_alloc]; omega) ?_; intro v2 w2 h2 hg2 _; replace hg2 : (w1.alloc (.cells p.cells.toArray 40)).grownBy w2 (Value.slice A1 q c1).ownBlock := hg2; obtain ⟨g2, cap2, rfl, hB2, hlt2⟩ := h2.form (Nat.succ_pos _))
                        | (refine wpList_append_own _ rfl _ _ 22 rfl V.heap.size 40 i0 zeroPane 9 80 Tryz.underlying22 hi hz0 hz1 hz2 rfl (by decide) _ _ _ rfl (World.ownsRow_nil _ _ _ _) ⟨g, 0, none⟩ q c0 (cellsOf (fs.take q)) rfl (by rw [cellsOf_length, List.length_take, ← HM.out, Nat.min_eq_left (by omega)]) (HRV.out.take q).news (cellsOf_one' _) (by unfold maxLen; omega) (by omega) (Nat.le_refl _) ?_; intro v1 w1 h1 hg1 _; rw [Nat.zero_add, List.nil_append] at h1; replace hg1 : V.grownBy w1 none := hg1; obtain ⟨A1, c1, rfl⟩ := own_shape h1; replace e0 := hg1.cell e0 (by simp); replace e1 := hg1.cell e1 (by simp); replace e2 := hg1.cell e2 (by simp); replace e3 := hg1.cell e3 (by simp); replace e4 := hg1.cell e4 (by simp); replace e5 := hg1.cell e5 (by simp); replace e6 := hg1.cell e6 (by simp); replace e7 := hg1.cell e7 (by simp); replace e8 := hg1.cell e8 (by simp)))
                      go_roundw
                      case rel =>
                        replace hg3 : w2.grownBy w3 (Value.slice (some ⟨g2, 0, none⟩) (q + 1) cap2).ownBlock := hg3
                        have hbV : Below w.heap.size w V := hb.trans (HVV.out.mono hb.size)
                        have hb1 : Below w.heap.size w w1 := hbV.grown hg1 hbV.size (fun r hr => by cases hr)
                        have hb2 := (hb1.alloc hb1.size (.cells p.cells.toArray 40)).grown hg2 (by have := hb1.size; simp; omega) (fun r hr => by have h9 := (own_block h1 hr).1; have h8 := hbV.size; omega)
                        have hb3 := hb2.grown hg3 hb2.size (fun r hr => by have h9 := (own_block h2 hr).1; have h8 := hbV.size; omega)
                        refine ⟨k + 1, by omega, by go_num, hb3, fs.take q ++ p :: fs.drop q, ?_, ?_, ?_⟩
                        · show _ = _
                          have hkk := hfs.out
                          subst hkk
                          rw [fin_step HP.out HLAT.out q hless.out (fun x hx => by
                            rw [HF.out] at hx
                            injection hx with hx
                            subst hx
                            exact (ordA.flip _ _).1 HCC.out)]
                        · have hm := HM.out
                          simp
                          omega
                        · have hm := HM.out
                          have h4 := own_mono h3 hbV.size
                          have e1 : (fs.take q ++ p :: fs.drop q).length = q + 1 + (m - q) := by simp; omega
                          have e2 : cellsOf (fs.take q ++ p :: fs.drop q) = cellsOf (fs.take q) ++ p.cells ++ cellsOf (fs.drop q) := by rw [cellsOf_append]; simp [cellsOf]
                          rw [e1, e2]
                          exact h4
                      case measure => simp [intOf]; omega
                · obtain rfl : q = m := by omega
                  rcases Nat.eq_or_lt_of_le hcap with hcc | hcc
                  · obtain rfl : q = c0 := hcc
                    go_wp2_with fail
                    go_quiet (fail)
                    obtain ⟨V, hV⟩ : ∃ V, V = wr.drewN nq := ⟨_, rfl⟩
                    rw [← hV]
                    have HVV := hide (show Below W0.heap.size W0 V by rw [hV]; exact below_drewN hbv _)
                    clear hV
                    replace e0 := below_cell HVV.out e0
                    replace e1 := below_cell HVV.out e1
                    replace e2 := below_cell HVV.out e2
                    replace e3 := below_cell HVV.out e3
                    replace e4 := below_cell HVV.out e4
                    replace e5 := below_cell HVV.out e5
                    replace e6 := below_cell HVV.out e6
                    replace e7 := below_cell HVV.out e7
                    replace e8 := below_cell HVV.out e8
                    have HRV := hide (HRF.out.keep HVV.out)
                    have hsV : W0.heap.size ≤ V.heap.size := HVV.out.size
                    have hgV : g < V.heap.size := Nat.lt_of_lt_of_le HGL.out hsV
                    go_wp2_with (at_builtin; first
                      | (refine wpList_append_own _ rfl _ _ 22 rfl V.heap.size 40 i0 zeroPane 9 80 Tryz.underlying22 hi hz0 hz1 hz2 rfl (by decide) _ _ _ rfl h2 ⟨g, _, none⟩ 0 _ [] rfl rfl (fun j u hu => by simp at hu) (fun u hu => by cases hu) (by unfold maxLen; omega) (by omega) (by have h8 := hg1.size; have h9 := hg2.size; rw [World.size_alloc] at h9; omega) ?_; intro v3 w3 h3 hg3 _)
                      | (refine wpList_append_own _ rfl _ _ 22 rfl V.heap.size 40 i0 zeroPane 9 80 Tryz.underlying22 hi hz0 hz1 hz2 rfl (by decide) _ _ _ rfl (h1.alloc (.cells p.cells.toArray 40)) ⟨w1.heap.size, 0, none⟩ 1 1 p.cells rfl rfl (pn_news rfl p) (pn_one p) (by unfold maxLen; omega) (by omega) (by have h8 := hg1.size; rw [World.size_alloc]; omega) ?_; intro v2 w2 h2 hg2 _; replace hg2 : (w1.alloc (.cells p.cells.toArray 40)).grownBy w2 (Value.slice A1 q c1).ownBlock := hg2; obtain ⟨g2, cap2, rfl, hB2, hlt2⟩ := h2.form (Nat.succ_pos _))
                      | (refine wpList_append_own _ rfl _ _ 22 rfl V.heap.size 40 i0 zeroPane 9 80 Tryz.underlying22 hi hz0 hz1 hz2 rfl (by decide) _ _ _ rfl (World.ownsRow_nil _ _ _ _) ⟨g, 0, none⟩ q q (cellsOf (fs.take q)) rfl (by rw [cellsOf_length, List.length_take, ← HM.out, Nat.min_eq_left (by omega)]) (HRV.out.take q).news (cellsOf_one' _) (by unfold maxLen; omega) (by omega) (Nat.le_refl _) ?_; intro v1 w1 h1 hg1 _; rw [Nat.zero_add, List.nil_append] at h1; replace hg1 : V.grownBy w1 none := hg1; obtain ⟨A1, c1, rfl⟩ := own_shape h1; replace e0 := hg1.cell e0 (by simp); replace e1 := hg1.cell e1 (by simp); replace e2 := hg1.cell e2 (by simp); replace e3 := hg1.cell e3 (by simp); replace e4 := hg1.cell e4 (by simp); replace e5 := hg1.cell e5 (by simp); replace e6 := hg1.cell e6 (by simp); replace e7 := hg1.cell e7 (by simp); replace e8 := hg1.cell e8 (by simp)))
                    go_roundw
                    case rel =>
                      replace hg3 : w2.grownBy w3 (Value.slice (some ⟨g2, 0, none⟩) (q + 1) cap2).ownBlock := hg3
                      have hbV : Below w.heap.size w V := hb.trans (HVV.out.mono hb.size)
                      have hb1 : Below w.heap.size w w1 := hbV.grown hg1 hbV.size (fun r hr => by cases hr)
                      have hb2 := (hb1.alloc hb1.size (.cells p.cells.toArray 40)).grown hg2 (by have := hb1.size; simp; omega) (fun r hr => by have h9 := (own_block h1 hr).1; have h8 := hbV.size; omega)
                      have hb3 := hb2.grown hg3 hb2.size (fun r hr => by have h9 := (own_block h2 hr).1; have h8 := hbV.size; omega)
                      refine ⟨k + 1, by omega, by go_num, hb3, fs.take q ++ p :: fs.drop q, ?_, ?_, ?_⟩
                      · show _ = _
                        have hkk := hfs.out
                        subst hkk
                        rw [fin_step HP.out HLAT.out q hless.out (fun x hx => by
                          rw [List.getElem?_eq_none (by rw [← HM.out]; exact Nat.le_refl _)] at hx
                          cases hx)]
                      · have hm := HM.out
                        simp
                        omega
                      · have hm := HM.out
                        have h4 := own_mono h3 hbV.size
                        have e1 : (fs.take q ++ p :: fs.drop q).length = q + 1 + 0 := by simp; omega
                        have e2 : cellsOf (fs.take q ++ p :: fs.drop q) = cellsOf (fs.take q) ++ p.cells ++ [] := by rw [cellsOf_append]; simp [cellsOf, List.drop_of_length_le (show fs.length ≤ q by omega)]
                        rw [e1, e2]
                        exact h4
                    case measure => simp [intOf]; omega
                  · have hcz : ¬ (c0 - q = 0) := by omega
                    have hcz2 : ¬ (c0 = q) := by omega
                    go_wp2_with fail
                    go_quiet (fail)
                    obtain ⟨V, hV⟩ : ∃ V, V = wr.drewN nq := ⟨_, rfl⟩
                    rw [← hV]
                    have HVV := hide (show Below W0.heap.size W0 V by rw [hV]; exact below_drewN hbv _)
                    clear hV
                    replace e0 := below_cell HVV.out e0
                    replace e1 := below_cell HVV.out e1
                    replace e2 := below_cell HVV.out e2
                    replace e3 := below_cell HVV.out e3
                    replace e4 := below_cell HVV.out e4
                    replace e5 := below_cell HVV.out e5
                    replace e6 := below_cell HVV.out e6
                    replace e7 := below_cell HVV.out e7
                    replace e8 := below_cell HVV.out e8
                    have HRV := hide (HRF.out.keep HVV.out)
                    have hsV : W0.heap.size ≤ V.heap.size := HVV.out.size
                    have hgV : g < V.heap.size := Nat.lt_of_lt_of_le HGL.out hsV
                    go_wp2_with (at_builtin; first
                      | (refine wpList_append_own _ rfl _ _ 22 rfl V.heap.size 40 i0 zeroPane 9 80 Tryz.underlying22 hi hz0 hz1 hz2 rfl (by decide) _ _ _ rfl h2 ⟨g, _, none⟩ 0 _ [] rfl rfl (fun j u hu => by simp at hu) (fun u hu => by cases hu) (by unfold maxLen; omega) (by omega) (by have h8 := hg1.size; have h9 := hg2.size; rw [World.size_alloc] at h9; omega) ?_; intro v3 w3 h3 hg3 _)
                      | (refine wpList_append_own _ rfl _ _ 22 rfl V.heap.size 40 i0 zeroPane 9 80 Tryz.underlying22 hi hz0 hz1 hz2 rfl (by decide) _ _ _ rfl (h1.alloc (.cells p.cells.toArray 40)) ⟨w1.heap.size, 0, none⟩ 1 1 p.cells rfl rfl (pn_news rfl p) (pn_one p) (by unfold maxLen; omega) (by omega) (by have h8 := hg1.size; rw [World.size_alloc]; omega) ?_; intro v2 w2 h2 hg2 _; replace hg2 : (w1.alloc (.cells p.cells.toArray 40)).grownBy w2 (Value.slice A1 q c1).ownBlock := hg2; obtain ⟨g2, cap2, rfl, hB2, hlt2⟩ := h2.form (Nat.succ_pos _))
                      | (refine wpList_append_own _ rfl _ _ 22 rfl V.heap.size 40 i0 zeroPane 9 80 Tryz.underlying22 hi hz0 hz1 hz2 rfl (by decide) _ _ _ rfl (World.ownsRow_nil _ _ _ _) ⟨g, 0, none⟩ q c0 (cellsOf (fs.take q)) rfl (by rw [cellsOf_length, List.length_take, ← HM.out, Nat.min_eq_left (by omega)]) (HRV.out.take q).news (cellsOf_one' _) (by unfold maxLen; omega) (by omega) (Nat.le_refl _) ?_; intro v1 w1 h1 hg1 _; rw [Nat.zero_add, List.nil_append] at h1; replace hg1 : V.grownBy w1 none := hg1; obtain ⟨A1, c1, rfl⟩ := own_shape h1; replace e0 := hg1.cell e0 (by simp); replace e1 := hg1.cell e1 (by simp); replace e2 := hg1.cell e2 (by simp); replace e3 := hg1.cell e3 (by simp); replace e4 := hg1.cell e4 (by simp); replace e5 := hg1.cell e5 (by simp); replace e6 := hg1.cell e6 (by simp); replace e7 := hg1.cell e7 (by simp); replace e8 := hg1.cell e8 (by simp)))
                    go_roundw
                    case rel =>
                      replace hg3 : w2.grownBy w3 (Value.slice (some ⟨g2, 0, none⟩) (q + 1) cap2).ownBlock := hg3
                      have hbV : Below w.heap.size w V := hb.trans (HVV.out.mono hb.size)
                      have hb1 : Below w.heap.size w w1 := hbV.grown hg1 hbV.size (fun r hr => by cases hr)
                      have hb2 := (hb1.alloc hb1.size (.cells p.cells.toArray 40)).grown hg2 (by have := hb1.size; simp; omega) (fun r hr => by have h9 := (own_block h1 hr).1; have h8 := hbV.size; omega)
                      have hb3 := hb2.grown hg3 hb2.size (fun r hr => by have h9 := (own_block h2 hr).1; have h8 := hbV.size; omega)
                      refine ⟨k + 1, by omega, by go_num, hb3, fs.take q ++ p :: fs.drop q, ?_, ?_, ?_⟩
                      · show _ = _
                        have hkk := hfs.out
                        subst hkk
                        rw [fin_step HP.out HLAT.out q hless.out (fun x hx => by
                          rw [List.getElem?_eq_none (by rw [← HM.out]; exact Nat.le_refl _)] at hx
                          cases hx)]
                      · have hm := HM.out
                        simp
                        omega
                      · have hm := HM.out
                        have h4 := own_mono h3 hbV.size
                        have e1 : (fs.take q ++ p :: fs.drop q).length = q + 1 + 0 := by simp; omega
                        have e2 : cellsOf (fs.take q ++ p :: fs.drop q) = cellsOf (fs.take q) ++ p.cells ++ [] := by rw [cellsOf_append]; simp [cellsOf, List.drop_of_length_le (show fs.length ≤ q by omega)]
                        rw [e1, e2]
                        exact h4
                    case measure => simp [intOf]; omega
    · have HQ : Hid (fs = lastOf ps) := by
        show _ = _
        rw [hfs.out, show k = ps.length by rw [HN.out]; omega]
        show (lst _).map _ = (lst _).map _
        rw [lst_fin]
      have HO := hide hown
      obtain ⟨A0, c0, rfl⟩ := own_shape hown
      go_wp2_with fail
      go_ret
      exact ⟨_, rfl, by rw [← HQ.out]; exact HO.out, hb⟩
end Go.Proofs.YtciahchpdmajbaaGreatDoor
