/- Rows of panes that are read: Of, Same. -/
import Derived.Test.YtciahchpdmajbaaGreatDoorPn
import Derived.Test.YtciahchpdmajbaaGreatDoorKeep
import Derived.Deep.QuietTactic
import Derived.BigQuiet
import Derived.Deep.RegionHeld3
import Derived.Deep.DrawnRows
namespace Go.Proofs.YtciahchpdmajbaaGreatDoor
open Go.RowKit
attribute [local go_sem ↓] Go.wp_at_zero Go.wp_at_succ

theorem info_Pane : (Tryz.prog.info? 40).map (fun i => (i.zero, i.size, i.bytes)) = some (some (.agg #[.string ByteArray.empty, .int .i64 0, .int .i64 0, .int .i64 0, .int .i64 0, .int .i64 0, .int .i64 0, .int .i64 0, .int .i64 0]), 9, 80) := by kernel_rfl

/-- A slice that reads as panes. -/
def Rd (w : World) (A : Option Addr) (ps : List Pn) : Prop :=
  ∀ i (hi : i < ps.length), ∃ b o, A = some ⟨b, o, none⟩ ∧ ∀ j u, ((ps[i]).cells)[j]? = some u → w.cell? ⟨b, o + i * 9 + j, none⟩ = some u
theorem Rd.keep {w w' : World} {A : Option Addr} {ps : List Pn} (h : Rd w A ps) (hb : Below w.heap.size w w') : Rd w' A ps := fun i hi => by
  obtain ⟨b, o, hA, hc⟩ := h i hi
  exact ⟨b, o, hA, fun j u hu => below_cell hb (hc j u hu)⟩
/-- The nine cells. -/
theorem Rd.at_ {w : World} {A : Option Addr} {ps : List Pn} (h : Rd w A ps) {i : Nat} (hi : i < ps.length) : ∃ b o, A = some ⟨b, o, none⟩ ∧
    w.cell? ⟨b, o + i * 9, none⟩ = some (.string (ps[i]).key) ∧ w.cell? ⟨b, o + i * 9 + 1, none⟩ = some (.int .i64 (ps[i]).s) ∧ w.cell? ⟨b, o + i * 9 + 2, none⟩ = some (.int .i64 (ps[i]).e) ∧
    w.cell? ⟨b, o + i * 9 + 3, none⟩ = some (.int .i64 (ps[i]).kind) ∧ w.cell? ⟨b, o + i * 9 + 4, none⟩ = some (.int .i64 (ps[i]).nth) ∧ w.cell? ⟨b, o + i * 9 + 5, none⟩ = some (.int .i64 (ps[i]).count) ∧
    w.cell? ⟨b, o + i * 9 + 6, none⟩ = some (.int .i64 (ps[i]).sum) ∧ w.cell? ⟨b, o + i * 9 + 7, none⟩ = some (.int .i64 (ps[i]).min) ∧ w.cell? ⟨b, o + i * 9 + 8, none⟩ = some (.int .i64 (ps[i]).max) := by
  obtain ⟨b, o, hA, hc⟩ := h i hi
  exact ⟨b, o, hA, hc 0 _ rfl, hc 1 _ rfl, hc 2 _ rfl, hc 3 _ rfl, hc 4 _ rfl, hc 5 _ rfl, hc 6 _ rfl, hc 7 _ rfl, hc 8 _ rfl⟩

abbrev zeroPane : Value := .agg #[.string ByteArray.empty, .int .i64 0, .int .i64 0, .int .i64 0, .int .i64 0, .int .i64 0, .int .i64 0, .int .i64 0, .int .i64 0]
theorem pn_news {W : World} {s : Nat} (hs : W.heap.size = s) (p : Pn) : ∀ j u, p.cells[j]? = some u → (W.alloc (.cells p.cells.toArray 40)).cell? ((⟨s, 0, none⟩ : Addr).add j) = some u := by
  subst hs
  exact World.news_of_block (cs := p.cells.toArray) (heap_alloc_new W _)
theorem pn_one (p : Pn) : ∀ u ∈ p.cells, u.oneCell' = true := by
  intro u hu
  simp only [Pn.cells, List.mem_cons, List.not_mem_nil, or_false] at hu
  rcases hu with rfl | rfl | rfl | rfl | rfl | rfl | rfl | rfl | rfl <;> rfl
theorem take_snoc {α : Type} (ps : List α) (k : Nat) (h : k < ps.length) : ps.take (k + 1) = ps.take k ++ [ps[k]] := by
  rw [List.take_succ_eq_append_getElem h]

def OfDone (ps : List Pn) (w : World) (e : Ending) (w' : World) : Prop := ∃ v, e = .returned v ∧ w'.ownsRow w.heap.size 40 9 v ps.length (cellsOf ps) ∧ Below w.heap.size w w'

set_option maxHeartbeats 2000000 in
set_option maxRecDepth 100000 in
theorem of_any (A : Option Addr) (n c : Nat) (ps : List Pn) (key : ByteArray) (w : World) (hn : ps.length = n) (hR : Rd w A ps) (hlen : n ≤ 10000) :
    Calls Tryz.prog 8 #[.slice A n c, .string key] w (OfDone (ps.filter fun p => p.key.toList == key.toList) w) := by
  obtain ⟨i0, hi, hz0, hz1, hz2⟩ := info_parts info_Pane
  have HR := hide hR
  have HN := hide hn
  clear hR hn
  go_enter Tryz.func8, Tryz.ntmps8
  go_wp2
  go_loopw [5, 10] (fun v i wr => ∃ k : Nat, k ≤ n ∧ i = .int .i64 k ∧ Below w.heap.size w wr ∧ ∃ qs : List Pn, Hid (qs = (ps.take k).filter fun p => p.key.toList == key.toList) ∧ qs.length ≤ k ∧ wr.ownsRow w.heap.size 40 9 v qs.length (cellsOf qs)) (fun _ i _ => n - (intOf i).toNat)
  case atStart => exact ⟨0, Nat.zero_le _, rfl, Below.refl _ _, [], rfl, Nat.le_refl _, World.ownsRow_nil _ _ _ _⟩
  case round =>
    obtain ⟨k, hk, rfl, hb, qs, hqs, hql, hown⟩ := hrel
    by_cases hlt : k < n
    · obtain ⟨b, o, hA, e0, e1, e2, e3, e4, e5, e6, e7, e8⟩ := (HR.out.keep hb).at_ (i := k) (by rw [HN.out]; exact hlt)
      obtain rfl := hA
      obtain ⟨p, hp⟩ : ∃ p, p = ps[k]'(by rw [HN.out]; exact hlt) := ⟨_, rfl⟩
      rw [← hp] at e0 e1 e2 e3 e4 e5 e6 e7 e8
      have HP := hide hp
      clear hp
      obtain ⟨A', c', rfl⟩ := own_shape hown
      by_cases hkey : (p.key.toList == key.toList) = true
      · have ha := (hown.alloc (.cells p.cells.toArray 40)).alloc (.cells p.cells.toArray 40)
        go_wp2_with (at_builtin; refine wpList_append_own _ rfl _ _ 22 rfl w.heap.size 40 i0 zeroPane 9 80 Tryz.underlying22 hi hz0 hz1 hz2 rfl (by decide) _ _ _ rfl ha ⟨wr.heap.size + 1, 0, none⟩ 1 1 p.cells rfl rfl (pn_news (by simp) p) (pn_one p) (by unfold maxLen; omega) (by omega) (by have := hb.size; simp; omega) ?_; intro v' w1 hown' hgrow _)
        go_roundw
        case rel =>
          refine ⟨k + 1, by omega, by go_num, ?_, qs ++ [p], ?_, by simp; omega, ?_⟩
          · exact ((hb.alloc hb.size _).alloc (by have := hb.size; simp; omega) _).grown hgrow (by have := hb.size; simp; omega) (fun r hr => (own_block ha hr).1)
          · show _ = _
            rw [take_snoc ps k (by rw [HN.out]; exact hlt), List.filter_append, ← hqs.out, ← HP.out]
            simp [hkey]
          · rw [cellsOf_append, cellsOf_one, List.length_append]
            exact hown'
        case measure => simp [intOf]; omega
      · have hkey' : (p.key.toList == key.toList) = false := by simpa using hkey
        clear hkey
        go_wp2_with fail
        go_roundw
        case rel =>
          refine ⟨k + 1, by omega, by go_num, hb.alloc hb.size _, qs, ?_, by omega, hown.alloc _⟩
          show _ = _
          rw [take_snoc ps k (by rw [HN.out]; exact hlt), List.filter_append, ← hqs.out, ← HP.out]
          simp [hkey']
        case measure => simp [intOf]; omega
    · have HQ : Hid (qs = ps.filter fun p => p.key.toList == key.toList) := by
        show _ = _
        rw [hqs.out, List.take_of_length_le (by rw [HN.out]; omega)]
      have HO := hide hown
      go_wp2_with fail
      go_ret
      exact ⟨_, rfl, by rw [← HQ.out]; exact HO.out, hb⟩

end Go.Proofs.YtciahchpdmajbaaGreatDoor
