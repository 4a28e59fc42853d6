/- The document's Keys: each key with its panes. -/
import Derived.Test.YtciahchpdmajbaaGreatDoorLent
import Derived.Test.YtciahchpdmajbaaGreatDoorRPlain
import Derived.Test.YtciahchpdmajbaaGreatDoorKeys
namespace Go.Proofs.YtciahchpdmajbaaGreatDoor
open Go.RowKit
attribute [local go_sem ↓] Go.wp_at_zero Go.wp_at_succ

theorem info_Str : (Tryz.prog.info? 9).map (fun i => (i.zero, i.size, i.bytes)) = some (some (.string ByteArray.empty), 1, 16) := by kernel_rfl
abbrev scells (ks : List ByteArray) : List Value := ks.map Value.string
theorem scells_one (ks : List ByteArray) : ∀ u ∈ scells ks, u.oneCell' = true := by
  intro u hu
  obtain ⟨k, _, rfl⟩ := List.mem_map.1 hu
  rfl
/-- A row of one's own: none yet, or its block. -/
theorem own_two {w : World} {B : Nat} {e : TypeId} {size n : Nat} {v : Value} {xs : List Value} (h : w.ownsRow B e size v n xs) : (v = .slice none 0 0 ∧ n = 0 ∧ xs = []) ∨ ∃ g cap, v = .slice (some ⟨g, 0, none⟩) n cap ∧ B ≤ g ∧ g < w.heap.size ∧ n ≤ cap := by
  rcases h.2 with ⟨rfl, rfl⟩ | ⟨g, cap, cur, rfl, hB, hg, hn, _⟩
  · exact .inl ⟨rfl, rfl, List.eq_nil_of_length_eq_zero (by simpa using h.1)⟩
  · exact .inr ⟨g, cap, rfl, hB, Tr.lt_of_some hg, hn⟩
theorem far_block {W w1 w2 : World} {o : Obj} {e : TypeId} {size n : Nat} {v : Value} {xs : List Value} (hg1 : W.grownBy w1 none) (h1 : w1.ownsRow W.heap.size e size v n xs) (hg2 : (w1.alloc o).grownBy w2 v.ownBlock) {g : Nat} (hg : g < W.heap.size) : w2.heap[g]? = W.heap[g]? := by
  have h9 : g < w1.heap.size := Nat.lt_of_lt_of_le hg hg1.size
  rw [hg2.block g (by rw [World.size_alloc]; omega) (fun e => by have := (own_block h1 e.symm).1; omega), Below.heap_alloc _ _ _ h9]
  exact hg1.block g hg (fun e => by cases e)
theorem drop_cells {W0 w2 : World} {B g q m c : Nat} {e : TypeId} {ks : List ByteArray} (HO : W0.ownsRow B e 1 (.slice (some ⟨g, 0, none⟩) m c) m (scells ks)) (hb : w2.heap[g]? = W0.heap[g]?) :
    ∀ j u, (scells (ks.drop q))[j]? = some u → w2.cell? ((⟨g, q, none⟩ : Addr).add j) = some u := by
  intro j u hu
  rw [scells, List.map_drop, List.getElem?_drop] at hu
  have h1 := HO.cells (g := g) rfl (q + j) u hu
  have e1 : (⟨g, q, none⟩ : Addr).add j = ⟨g, q + j, none⟩ := by unfold Addr.add; split <;> simp_all
  have e2 : (⟨g, 0, none⟩ : Addr).add (q + j) = ⟨g, q + j, none⟩ := by unfold Addr.add; split <;> simp_all
  rw [e1]
  rw [e2] at h1
  rw [World.cell?_of_block (w := W0) hb]
  exact h1
def RkDone (ps : List Pn) (w : World) (e : Ending) (w' : World) : Prop := ∃ v, e = .returned v ∧ w'.ownsRow w.heap.size 9 1 v (gkeys ps).length (scells (gkeys ps)) ∧ Below w.heap.size w w'

set_option maxHeartbeats 2000000 in
set_option maxRecDepth 100000 in
theorem rkeys_any (A : Option Addr) (n c : Nat) (ps : List Pn) (w : World) (hn : ps.length = n) (hR : Rd w A ps) (hlen : n ≤ 10000) :
    Calls Tryz.prog 33 #[.slice A n c] w (RkDone ps w) := by
  obtain ⟨i0, hi, hz0, hz1, hz2⟩ := info_parts info_Str
  have HR := hide hR
  have HN := hide hn
  clear hR hn
  go_enter Tryz.func33, Tryz.ntmps33
  go_wp2
  go_loopw [3, 4] (fun v i wr => ∃ k : Nat, k ≤ n ∧ i = .int .i64 k ∧ Below w.heap.size w wr ∧ ∃ ks : List ByteArray, Hid (ks = gkeys (ps.take k)) ∧ ks.length ≤ k ∧ wr.ownsRow w.heap.size 9 1 v ks.length (scells ks)) (fun _ i _ => n - (intOf i).toNat)
  case atStart => exact ⟨0, Nat.zero_le _, rfl, Below.refl _ _, [], rfl, Nat.le_refl _, World.ownsRow_nil _ _ _ _⟩
  case round =>
    obtain ⟨k, hk, rfl, hb, ks, hks, hkl, hown⟩ := hrel
    obtain ⟨W0, hW0⟩ : ∃ W0, W0 = wr := ⟨wr, rfl⟩
    subst hW0
    by_cases hlt : k < n
    · obtain ⟨b, o, hA, e0, _⟩ := (HR.out.keep hb).at_ (i := k) (by rw [HN.out]; exact hlt)
      obtain rfl := hA
      obtain ⟨p, hp⟩ : ∃ p, p = ps[k]'(by rw [HN.out]; exact hlt) := ⟨_, rfl⟩
      rw [← hp] at e0
      have HP := hide hp
      clear hp
      obtain ⟨A0, c0, rfl⟩ := own_shape hown
      obtain ⟨m, hm⟩ : ∃ m, m = ks.length := ⟨_, rfl⟩
      rw [← hm] at hown hkl ⊢
      have HM := hide hm
      have HO := hide hown
      clear hm
      rcases own_two hown with ⟨hv, hm0, hx0⟩ | ⟨g, cap, hv, hBg, hgl, hcap⟩
      · injection hv with hv1 _ hv2
        subst hv1 hv2 hm0
        obtain rfl : ks = [] := List.eq_nil_of_length_eq_zero HM.out.symm
        clear hown
        go_wp2_with fail
        go_loopw [5] (fun i w2 => ∃ d : Nat, i = .int .i64 0 ∧ w2 = W0.drewN d) (fun _ _ => 0)
        case atStart => exact ⟨0, rfl, rfl⟩
        case round =>
          obtain ⟨d, rfl, rfl⟩ := hrel
          go_wp2_with fail
          go_quiet (fail)
          go_wp2_with fail
          go_quiet (fail)
          go_wp2_with (at_builtin; refine wpList_append_own _ rfl _ _ 69 rfl W0.heap.size 9 i0 (.string ByteArray.empty) 1 16 Tryz.underlying69 hi hz0 hz1 hz2 rfl (by decide) _ _ _ rfl (World.ownsRow_nil _ _ _ _) ⟨W0.heap.size, 0, none⟩ 1 1 [.string p.key] rfl rfl (cell_one_new _ _ _) (by simp [Value.oneCell']) (by decide) (by decide) (by simp) ?_; intro v2 w2 h2 hg2 _; obtain ⟨g2, cap2, rfl, hB2, hlt2⟩ := h2.form (Nat.succ_pos _); have hcap2 := own_cap h2; replace hg2 : ((W0.drewN _).alloc (.cells #[.string p.key] 9)).grownBy w2 none := hg2)
          go_roundw
          case rel =>
            have hb2 := ((below_drewN hb _).alloc hb.size (.cells #[.string p.key] 9)).grown hg2 (by have := hb.size; simp; omega) (fun r hr => by cases hr)
            refine ⟨k + 1, by omega, by go_num, hb2, [p.key], ?_, by simp, own_mono h2 hb.size⟩
            show _ = _
            have hkk := hks.out
            have h9 := gkeys_new (ps := ps.take k) (p := p) 0 (fun x hx => by simp at hx) (fun x hx => by rw [← hkk] at hx; cases hx)
            rw [← hkk] at h9
            rw [take_snoc ps k (by rw [HN.out]; exact hlt), ← HP.out, h9]
            rfl
          case measure => simp [intOf]; omega
      · injection hv with hv1 _ hv2
        subst hv1 hv2
        have HGL := hide hgl
        have HC1 := hide (p := ∀ d q : Nat, q ≤ m → ∀ j u, (scells (ks.take q))[j]? = some u → (W0.drewN d).cell? ((⟨g, 0, none⟩ : Addr).add j) = some u) fun d q hq j u hu => by
          refine HO.out.cells rfl j u ?_
          rw [scells, List.map_take, List.getElem?_take] at hu
          split at hu
          · exact hu
          · cases hu
        go_wp2_with fail
        go_loopw [5] (fun i w2 => ∃ q d : Nat, q ≤ m ∧ i = .int .i64 q ∧ w2 = W0.drewN d ∧ Hid (∀ x ∈ ks.take q, scmp x p.key = -1)) (fun i _ => m - (intOf i).toNat)
        case atStart => exact ⟨0, 0, Nat.zero_le _, rfl, rfl, fun x hx => by simp at hx⟩
        case round =>
          obtain ⟨q, d, hq, rfl, rfl, hless⟩ := hrel
          by_cases hqm : q < m
          · obtain ⟨y, hy⟩ : ∃ y, y = ks[q]'(by rw [← HM.out]; exact hqm) := ⟨_, rfl⟩
            have g0 : W0.cell? ⟨g, q, none⟩ = some (.string y) := by
              rw [HO.out.cellAt q (by omega), List.getElem?_map, List.getElem?_eq_getElem (by rw [← HM.out]; exact hqm), ← hy]
              rfl
            have HY := hide hy
            clear hy
            by_cases hle : Op.bytesLess y.toList p.key.toList = true
            · go_wp2_with fail
              go_quiet (fail)
              go_wp2_with fail
              go_roundw
              case rel =>
                refine ⟨q + 1, _, by omega, by go_num, rfl, ?_⟩
                intro x hx
                rw [take_snoc ks q (by rw [← HM.out]; exact hqm), List.mem_append] at hx
                rcases hx with hx | hx
                · exact hless.out x hx
                · rw [List.mem_singleton.1 hx, ← HY.out]
                  exact scmp_lt hle
              case measure => simp [intOf]; omega
            · have hle' : Op.bytesLess y.toList p.key.toList = false := by simpa using hle
              clear hle
              by_cases heq : (y.toList == p.key.toList) = true
              · go_wp2_with fail
                go_quiet (fail)
                go_wp2_with fail
                go_quiet (fail)
                go_wp2_with fail
                go_roundw
                case rel =>
                  refine ⟨k + 1, by omega, by go_num, below_drewN hb _, ks, ?_, by have := HM.out; omega, HM.out ▸ HO.out⟩
                  show _ = _
                  have hkk := hks.out
                  subst hkk
                  rw [take_snoc ps k (by rw [HN.out]; exact hlt), ← HP.out]
                  refine (gkeys_old q hless.out ?_).symm
                  rw [List.getElem?_eq_getElem (by rw [← HM.out]; exact hqm), ← HY.out, toList_inj (by simpa using heq : y.toList = p.key.toList)]
                case measure => simp [intOf]; omega
              · have heq' : (y.toList == p.key.toList) = false := by simpa using heq
                clear heq
                go_wp2_with fail
                go_quiet (fail)
                go_wp2_with fail
                go_quiet (fail)
                go_wp2_with (at_builtin; first
                  | (refine wpList_append_own _ rfl _ _ 69 rfl W0.heap.size 9 i0 (.string ByteArray.empty) 1 16 Tryz.underlying69 hi hz0 hz1 hz2 rfl (by decide) _ _ _ rfl h2 ⟨g, q, none⟩ (m - q) (c0 - q) (scells (ks.drop q)) rfl (by rw [List.length_map, List.length_drop, ← HM.out]; omega) (drop_cells HO.out (far_block hg1 h1 hg2 HGL.out)) (scells_one _) (by unfold maxLen; omega) (by omega) (by have := hg1.size; have := hg2.size; simp at *; omega) ?_; intro v3 w3 h3 hg3 _)
                  | (refine wpList_append_own _ rfl _ _ 69 rfl W0.heap.size 9 i0 (.string ByteArray.empty) 1 16 Tryz.underlying69 hi hz0 hz1 hz2 rfl (by decide) _ _ _ rfl (h1.alloc (.cells #[.string p.key] 9)) ⟨w1.heap.size, 0, none⟩ 1 1 [.string p.key] rfl rfl (cell_one_new _ _ _) (by simp [Value.oneCell']) (by unfold maxLen; omega) (by omega) (by have := hg1.size; simp at this ⊢; omega) ?_; intro v2 w2 h2 hg2 _; replace hg2 : (w1.alloc (.cells #[.string p.key] 9)).grownBy w2 (Value.slice A1 q c1).ownBlock := hg2; obtain ⟨g2, cap2, rfl, hB2, hlt2⟩ := h2.form (Nat.succ_pos _))
                  | (refine wpList_append_own _ rfl _ _ 69 rfl W0.heap.size 9 i0 (.string ByteArray.empty) 1 16 Tryz.underlying69 hi hz0 hz1 hz2 rfl (by decide) _ _ _ rfl (World.ownsRow_nil _ _ _ _) ⟨g, 0, none⟩ q c0 (scells (ks.take q)) rfl (by rw [List.length_map, List.length_take, ← HM.out]; omega) (HC1.out _ q (by omega)) (scells_one _) (by unfold maxLen; omega) (by omega) (by simp) ?_; intro v1 w1 h1 hg1 _; rw [Nat.zero_add, List.nil_append] at h1; replace hg1 : (W0.drewN _).grownBy w1 none := hg1; obtain ⟨A1, c1, rfl⟩ := own_shape h1; have e2 : w1.cell? ⟨b, o + k * 9, none⟩ = some (.string p.key) := hg1.cell e0 (by simp)))
                go_roundw
                case rel =>
                  replace hg3 : w2.grownBy w3 (Value.slice (some ⟨g2, 0, none⟩) (q + 1) cap2).ownBlock := hg3
                  have hb1 : Below w.heap.size w w1 := (below_drewN hb _).grown hg1 hb.size (fun r hr => by cases hr)
                  have hb2 := (hb1.alloc hb1.size (.cells #[.string p.key] 9)).grown hg2 (by have := hb1.size; simp; omega) (fun r hr => by have h9 := (own_block h1 hr).1; have h8 := hb.size; omega)
                  have hb3 := hb2.grown hg3 hb2.size (fun r hr => by have h9 := (own_block h2 hr).1; have h8 := hb.size; omega)
                  refine ⟨k + 1, by omega, by go_num, hb3, ks.take q ++ p.key :: ks.drop q, ?_, ?_, ?_⟩
                  · show _ = _
                    have hkk := hks.out
                    subst hkk
                    rw [take_snoc ps k (by rw [HN.out]; exact hlt), ← HP.out, gkeys_new q hless.out (fun x hx => by
                      rw [List.getElem?_eq_getElem (by rw [← HM.out]; exact hqm), ← HY.out] at hx
                      injection hx with hx
                      subst hx
                      exact scmp_flip.1 (scmp_gt hle' (by rw [heq']; rfl)))]
                  · have hm := HM.out
                    simp
                    omega
                  · have hm := HM.out
                    have h4 := own_mono h3 (show w.heap.size ≤ W0.heap.size from hb.size)
                    have e1 : (ks.take q ++ p.key :: ks.drop q).length = q + 1 + (m - q) := by simp; omega
                    have e2 : scells (ks.take q ++ p.key :: ks.drop q) = scells (ks.take q) ++ [.string p.key] ++ scells (ks.drop q) := by simp [scells]
                    rw [e1, e2]
                    exact h4
                case measure => simp [intOf]; omega
          · obtain rfl : q = m := by omega
            rcases Nat.eq_or_lt_of_le hcap with hcc | hcc
            · obtain rfl : q = c0 := hcc
              go_wp2_with fail
              go_quiet (fail)
              go_wp2_with fail
              go_quiet (fail)
              go_wp2_with (at_builtin; first
                | (refine wpList_append_own _ rfl _ _ 69 rfl W0.heap.size 9 i0 (.string ByteArray.empty) 1 16 Tryz.underlying69 hi hz0 hz1 hz2 rfl (by decide) _ _ _ rfl h2 ⟨g, _, none⟩ 0 _ [] rfl rfl (fun j u hu => by simp at hu) (fun u hu => by cases hu) (by unfold maxLen; omega) (by omega) (by have := hg1.size; have := hg2.size; simp at *; omega) ?_; intro v3 w3 h3 hg3 _)
                | (refine wpList_append_own _ rfl _ _ 69 rfl W0.heap.size 9 i0 (.string ByteArray.empty) 1 16 Tryz.underlying69 hi hz0 hz1 hz2 rfl (by decide) _ _ _ rfl (h1.alloc (.cells #[.string p.key] 9)) ⟨w1.heap.size, 0, none⟩ 1 1 [.string p.key] rfl rfl (cell_one_new _ _ _) (by simp [Value.oneCell']) (by unfold maxLen; omega) (by omega) (by have := hg1.size; simp at this ⊢; omega) ?_; intro v2 w2 h2 hg2 _; replace hg2 : (w1.alloc (.cells #[.string p.key] 9)).grownBy w2 (Value.slice A1 q c1).ownBlock := hg2; obtain ⟨g2, cap2, rfl, hB2, hlt2⟩ := h2.form (Nat.succ_pos _))
                | (refine wpList_append_own _ rfl _ _ 69 rfl W0.heap.size 9 i0 (.string ByteArray.empty) 1 16 Tryz.underlying69 hi hz0 hz1 hz2 rfl (by decide) _ _ _ rfl (World.ownsRow_nil _ _ _ _) ⟨g, 0, none⟩ q q (scells (ks.take q)) rfl (by rw [List.length_map, List.length_take, ← HM.out]; omega) (HC1.out _ q (by omega)) (scells_one _) (by unfold maxLen; omega) (by omega) (by simp) ?_; intro v1 w1 h1 hg1 _; rw [Nat.zero_add, List.nil_append] at h1; replace hg1 : (W0.drewN _).grownBy w1 none := hg1; obtain ⟨A1, c1, rfl⟩ := own_shape h1; have e2 : w1.cell? ⟨b, o + k * 9, none⟩ = some (.string p.key) := hg1.cell e0 (by simp)))
              go_roundw
              case rel =>
                replace hg3 : w2.grownBy w3 (Value.slice (some ⟨g2, 0, none⟩) (q + 1) cap2).ownBlock := hg3
                have hb1 : Below w.heap.size w w1 := (below_drewN hb _).grown hg1 hb.size (fun r hr => by cases hr)
                have hb2 := (hb1.alloc hb1.size (.cells #[.string p.key] 9)).grown hg2 (by have := hb1.size; simp; omega) (fun r hr => by have h9 := (own_block h1 hr).1; have h8 := hb.size; omega)
                have hb3 := hb2.grown hg3 hb2.size (fun r hr => by have h9 := (own_block h2 hr).1; have h8 := hb.size; omega)
                refine ⟨k + 1, by omega, by go_num, hb3, ks.take q ++ p.key :: ks.drop q, ?_, ?_, ?_⟩
                · show _ = _
                  have hkk := hks.out
                  subst hkk
                  rw [take_snoc ps k (by rw [HN.out]; exact hlt), ← HP.out, gkeys_new q hless.out (fun x hx => by
                    rw [List.getElem?_eq_none (by rw [← HM.out]; exact Nat.le_refl _)] at hx
                    cases hx)]
                · have hm := HM.out
                  simp
                  omega
                · have hm := HM.out
                  have h4 := own_mono h3 (show w.heap.size ≤ W0.heap.size from hb.size)
                  have e1 : (ks.take q ++ p.key :: ks.drop q).length = q + 1 + 0 := by simp; omega
                  have e2 : scells (ks.take q ++ p.key :: ks.drop q) = scells (ks.take q) ++ [.string p.key] ++ [] := by simp [scells, List.drop_of_length_le (show ks.length ≤ q by omega)]
                  rw [e1, e2]
                  exact h4
              case measure => simp [intOf]; omega
            · have hcz : ¬ (c0 - q = 0) := by omega
              have hcz2 : ¬ (c0 = q) := by omega
              go_wp2_with fail
              go_quiet (fail)
              go_wp2_with fail
              go_quiet (fail)
              go_wp2_with (at_builtin; first
                | (refine wpList_append_own _ rfl _ _ 69 rfl W0.heap.size 9 i0 (.string ByteArray.empty) 1 16 Tryz.underlying69 hi hz0 hz1 hz2 rfl (by decide) _ _ _ rfl h2 ⟨g, _, none⟩ 0 _ [] rfl rfl (fun j u hu => by simp at hu) (fun u hu => by cases hu) (by unfold maxLen; omega) (by omega) (by have := hg1.size; have := hg2.size; simp at *; omega) ?_; intro v3 w3 h3 hg3 _)
                | (refine wpList_append_own _ rfl _ _ 69 rfl W0.heap.size 9 i0 (.string ByteArray.empty) 1 16 Tryz.underlying69 hi hz0 hz1 hz2 rfl (by decide) _ _ _ rfl (h1.alloc (.cells #[.string p.key] 9)) ⟨w1.heap.size, 0, none⟩ 1 1 [.string p.key] rfl rfl (cell_one_new _ _ _) (by simp [Value.oneCell']) (by unfold maxLen; omega) (by omega) (by have := hg1.size; simp at this ⊢; omega) ?_; intro v2 w2 h2 hg2 _; replace hg2 : (w1.alloc (.cells #[.string p.key] 9)).grownBy w2 (Value.slice A1 q c1).ownBlock := hg2; obtain ⟨g2, cap2, rfl, hB2, hlt2⟩ := h2.form (Nat.succ_pos _))
                | (refine wpList_append_own _ rfl _ _ 69 rfl W0.heap.size 9 i0 (.string ByteArray.empty) 1 16 Tryz.underlying69 hi hz0 hz1 hz2 rfl (by decide) _ _ _ rfl (World.ownsRow_nil _ _ _ _) ⟨g, 0, none⟩ q c0 (scells (ks.take q)) rfl (by rw [List.length_map, List.length_take, ← HM.out]; omega) (HC1.out _ q (by omega)) (scells_one _) (by unfold maxLen; omega) (by omega) (by simp) ?_; intro v1 w1 h1 hg1 _; rw [Nat.zero_add, List.nil_append] at h1; replace hg1 : (W0.drewN _).grownBy w1 none := hg1; obtain ⟨A1, c1, rfl⟩ := own_shape h1; have e2 : w1.cell? ⟨b, o + k * 9, none⟩ = some (.string p.key) := hg1.cell e0 (by simp)))
              go_roundw
              case rel =>
                replace hg3 : w2.grownBy w3 (Value.slice (some ⟨g2, 0, none⟩) (q + 1) cap2).ownBlock := hg3
                have hb1 : Below w.heap.size w w1 := (below_drewN hb _).grown hg1 hb.size (fun r hr => by cases hr)
                have hb2 := (hb1.alloc hb1.size (.cells #[.string p.key] 9)).grown hg2 (by have := hb1.size; simp; omega) (fun r hr => by have h9 := (own_block h1 hr).1; have h8 := hb.size; omega)
                have hb3 := hb2.grown hg3 hb2.size (fun r hr => by have h9 := (own_block h2 hr).1; have h8 := hb.size; omega)
                refine ⟨k + 1, by omega, by go_num, hb3, ks.take q ++ p.key :: ks.drop q, ?_, ?_, ?_⟩
                · show _ = _
                  have hkk := hks.out
                  subst hkk
                  rw [take_snoc ps k (by rw [HN.out]; exact hlt), ← HP.out, gkeys_new q hless.out (fun x hx => by
                    rw [List.getElem?_eq_none (by rw [← HM.out]; exact Nat.le_refl _)] at hx
                    cases hx)]
                · have hm := HM.out
                  simp
                  omega
                · have hm := HM.out
                  have h4 := own_mono h3 (show w.heap.size ≤ W0.heap.size from hb.size)
                  have e1 : (ks.take q ++ p.key :: ks.drop q).length = q + 1 + 0 := by simp; omega
                  have e2 : scells (ks.take q ++ p.key :: ks.drop q) = scells (ks.take q) ++ [.string p.key] ++ [] := by simp [scells, List.drop_of_length_le (show ks.length ≤ q by omega)]
                  rw [e1, e2]
                  exact h4
              case measure => simp [intOf]; omega
    · have HQ : Hid (ks = gkeys ps) := by
        show _ = _
        rw [hks.out, List.take_of_length_le (by rw [HN.out]; omega)]
      have HO := hide hown
      obtain ⟨A0, c0, rfl⟩ := own_shape hown
      go_wp2_with fail
      go_ret
      exact ⟨_, rfl, by rw [← HQ.out]; exact HO.out, hb⟩
end Go.Proofs.YtciahchpdmajbaaGreatDoor

namespace Go.Proofs.YtciahchpdmajbaaGreatDoor
open Go.RowKit
attribute [local go_sem ↓] Go.wp_at_zero Go.wp_at_succ

theorem keepsKP {W w2 w3 : World} {o : Obj} {B n : Nat} {v : Value} {xs : List Value} (hb2 : Below W.heap.size W w2) (h : (w2.alloc o).ownsRow B 32 2 v n xs) (hg : (w2.alloc o).grownBy w3 v.ownBlock) : KeepsTy (fun t => t ≠ 32) W w3 :=
  (KeepsTy.below hb2).trans ((KeepsTy.below ((Below.refl _ w2).alloc (Nat.le_refl _) o)).trans (keeps_own hg fun _ hr => (own_block h hr).2))

set_option maxHeartbeats 4000000 in
set_option maxRecDepth 100000 in
theorem rKeys_any (A : Option Addr) (n c : Nat) (ps : List Pn) (w : World) (hn : ps.length = n) (hR : Rd w A ps) (hlen : n ≤ 10000) :
    Calls Tryz.prog 9 #[.slice A n c] w (KeysDone ps w) := by
  obtain ⟨i1, hk, hk0, hk1, hk2⟩ := info_parts info_KP
  have HOF := hide fun (key : ByteArray) (W : World) (h : Rd W A ps) => rof_any A n c ps key W hn h hlen
  obtain ⟨ks, hks⟩ : ∃ ks, ks = gkeys ps := ⟨_, rfl⟩
  obtain ⟨m, hm⟩ : ∃ m, m = ks.length := ⟨_, rfl⟩
  have hml : m ≤ 10000 := by have := gkeys_length ps; rw [hm, hks]; omega
  have hne : Hid (∀ k ∈ ks, keyed k ps ≠ []) := fun k hk => by
    rw [hks] at hk
    obtain ⟨x, hx, rfl⟩ := List.mem_map.1 hk
    rw [← grp_mem (k := x.1) (g := x.2) hx]
    exact grp_ne ps x hx
  have HK : Hid (Calls Tryz.prog 33 #[.slice A n c] w fun e w' => ∃ v, e = .returned v ∧ w'.ownsRow w.heap.size 9 1 v m (scells ks) ∧ Below w.heap.size w w') := by
    subst hm hks
    exact rkeys_any A n c ps w hn hR hlen
  have HR := hide hR
  have HN := hide hn
  have HKS := hide hks
  have HM := hide hm
  clear hR hn hks hm
  go_enter Tryz.func9, Tryz.ntmps9
  go_wp2_with (go_at_call 33; (with_reducible refine (unhide HK).mono ?_); rintro e w1 ⟨v1, rfl, hr1, hb1⟩; obtain ⟨A1, c1, rfl⟩ := own_shape hr1)
  go_loopw [3, 5] (fun v i wr => ∃ q : Nat, q ≤ m ∧ i = .int .i64 q ∧ Below w.heap.size w wr ∧ wr.ownsRow w.heap.size 9 1 (.slice A1 m c1) m (scells ks) ∧ ∃ L : List (ByteArray × Sl), L.length = q ∧ wr.ownsRow w.heap.size 32 2 v q (kcells L) ∧ Hid (All2 (Ent w.heap.size wr) L ((ks.take q).map fun k => (k, keyed k ps)))) (fun _ i _ => m - (intOf i).toNat)
  case atStart => exact ⟨0, Nat.zero_le _, rfl, hb1, hr1, [], rfl, World.ownsRow_nil _ _ _ _, by show All2 _ [] []; trivial⟩
  case round =>
    clear hr1 hb1 HK
    obtain ⟨q, hq, rfl, hb, hkr, L, hL, hown, hall⟩ := hrel
    obtain ⟨A0, c0, rfl⟩ := own_shape hown
    by_cases hlt : q < m
    · obtain ⟨g, cap, hv, hBg, hgl⟩ := hkr.form (by omega)
      injection hv with e1 _ e2
      subst e1 e2
      obtain ⟨y, hy⟩ : ∃ y, y = ks[q]'(by rw [← HM.out]; exact hlt) := ⟨_, rfl⟩
      have g0 : wr.cell? ⟨g, q, none⟩ = some (.string y) := by
        rw [hkr.cellAt q (by omega), List.getElem?_map, List.getElem?_eq_getElem (by rw [← HM.out]; exact hlt), ← hy]
        rfl
      have hRw : Hid (Rd wr.drew A ps) := HR.out.keep hb.drew
      obtain ⟨qs, hqs⟩ : ∃ qs, qs = keyed y ps := ⟨_, rfl⟩
      have HOF2 : Hid (Calls Tryz.prog 14 #[.slice A n c, .string y] wr.drew fun e w' => ∃ A2 c2, e = .returned (.slice A2 qs.length c2) ∧ w'.ownsRow wr.heap.size 40 9 (.slice A2 qs.length c2) qs.length (cellsOf qs) ∧ Below wr.heap.size wr.drew w') := (HOF.out y _ hRw.out).mono fun e w' h => by
        obtain ⟨v, h1, h2, h3⟩ := h
        subst hqs
        obtain ⟨A2, c2, rfl⟩ := own_shape h2
        exact ⟨A2, c2, h1, h2, h3⟩
      have HNE : Hid (some g ≠ (Value.slice A0 q c0).ownBlock) := fun e => by
        obtain ⟨_, cs, h1⟩ := own_block hown e.symm
        rcases hkr.2 with ⟨h, _⟩ | ⟨g9, cap9, cur9, h, _, h9, _⟩
        · cases h
        · injection h with h
          injection h with h
          injection h with h
          subst h
          rw [h1] at h9
          injection h9 with h9
          injection h9 with _ h9
          cases h9
      have HY := hide hy
      have HQS := hide hqs
      clear hy hqs
      have hsz : w.heap.size ≤ wr.heap.size := hb.size
      go_wp2_with fail
      go_region_held3 (fun w0 => w0.cell? ⟨g, q, none⟩ = some (.string y))
        (first | exact kd g0 | exact below_cell hb2 (kd g0) | exact ka (below_cell hb2 (kd g0)) | exact hgrow.cell (ka (below_cell hb2 (kd g0))) HNE.out)
        (first
          | (go_at_call 14; (with_reducible refine (unhide HOF2).mono ?_); rintro e w2 ⟨A2, c2, rfl, hr2, hb2⟩)
          | (refine step_append_lies _ (by rfl) _ _ _ (by rfl) w.heap.size 32 i1 (.agg #[.string ByteArray.empty, .slice none 0 0]) 2 40 Tryz.underlying25 hk hk0 hk1 hk2 rfl (by decide) (.slice A0 q c0) q (kcells L) (by rfl) ((own_keepsTy (p := fun _ => True) hown.drew (KeepsTy.below hb2) trivial).alloc (.cells #[.string y, .slice A2 qs.length c2] 32)) ⟨w2.heap.size, 0, none⟩ 1 1 [.string y, .slice A2 qs.length c2] (by rfl) (by rfl) (World.news_of_block (cs := #[.string y, .slice A2 qs.length c2]) (heap_alloc_new w2 _)) (by intro u hu; simp at hu; rcases hu with rfl | rfl <;> rfl) (by decide) (by unfold maxLen; omega) (by omega) (by have := hb2.size; simp at this ⊢; omega) (w2.heap.size + 1) (by simp) ?_; intro gg capg w3 hown3 hgrow hat hlt3))
      all_goals
        have ha := (own_keepsTy (p := fun _ => True) hown.drew (KeepsTy.below hb2) trivial).alloc (.cells #[.string y, .slice A2 qs.length c2] 32)
        have hkt : KeepsTy (fun t => t ≠ 32) wr w3 := keepsKP (W := wr.drew) hb2 ha hgrow
        have hkt2 : KeepsTy (fun t => t ≠ 32) w2 w3 := keepsKP (Below.refl _ w2) ha hgrow
        have hb9 : Below w.heap.size w w2 := hb.drew.trans (hb2.mono hsz)
        have hb3 := (hb9.alloc hb9.size (.cells #[.string y, .slice A2 qs.length c2] 32)).grown hgrow (by have := hb9.size; simp; omega) (fun r hr => (own_block ha hr).1)
        go_wp2_with fail
        go_roundw
        case rel =>
          refine ⟨q + 1, by omega, by go_num, hb3, own_keepsTy hkr hkt (by decide), L ++ [(y, ⟨A2, qs.length, c2⟩)], by simp [hL], ?_, ?_⟩
          · rw [kcells_append, kcells_one]
            exact hown3
          · rw [take_snoc ks q (by rw [← HM.out]; exact hlt), List.map_append, ← HY.out]
            refine All2.snoc (hall.out.imp fun _ _ _ h => h.keeps hkt (by decide)) ⟨rfl, ?_, ?_, ?_⟩
            · show qs.length = (keyed y ps).length
              rw [HQS.out]
            · exact hne.out y (by rw [HY.out]; exact List.getElem_mem _)
            · show w3.ownsRow _ _ _ _ (keyed y ps).length (cellsOf (keyed y ps))
              rw [← HQS.out]
              exact own_mono (own_keepsTy hr2 hkt2 (by decide)) hsz
        case measure => simp [intOf]; omega
    · obtain rfl : q = m := by omega
      have hfin : Hid (All2 (Ent w.heap.size wr) L (grp ps)) := by
        have h := hall.out
        rw [List.take_of_length_le (by rw [← HM.out]; exact Nat.le_refl _), HKS.out, ← grp_keys] at h
        exact h
      have HL := hide hL
      have HO := hide hown
      clear hall hL hown hkr
      go_wp2_with fail
      go_ret
      exact ⟨_, L, rfl, by rw [HL.out]; exact HO.out, hfin.out, hb⟩
end Go.Proofs.YtciahchpdmajbaaGreatDoor
