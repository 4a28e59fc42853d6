/- known: true, whatever lies in memory. -/
import Derived.Test.YtciahchpdmajbaaGreatDoorKn4
import Derived.Test.YtciahchpdmajbaaGreatDoorAlike
namespace Go.Proofs.YtciahchpdmajbaaGreatDoor
open Go.RowKit
attribute [local go_sem ↓] Go.wp_at_zero Go.wp_at_succ

theorem rd_one {W : World} {s : Nat} {p : Pn} (h : W.heap[s]? = some (.cells p.cells.toArray 40 (0, 0))) : Rd W (some ⟨s, 0, none⟩) [p] := fun i hi => by
  obtain rfl : i = 0 := by simp at hi; exact hi
  refine ⟨s, 0, rfl, fun j u hu => ?_⟩
  have hu2 : p.cells[j]? = some u := hu
  rw [cell_of_row W s _ _ _ (0, 0) h]
  simpa using hu2

theorem alike_one {p : Pn} {A1 A2 : Option Addr} (w : World) (h1 : Rd w A1 [p]) (h2 : Rd w A2 [p]) (hs : p.key.size ≤ maxLen) :
    Calls Tryz.prog 16 #[.slice A1 1 1, .slice A2 1 1] w fun e w' => e = .returned (.bool true) ∧ Below w.heap.size w w' := by
  refine (alike_any A1 1 1 [p] A2 1 1 [p] w rfl h1 rfl h2 (by decide) (by decide) (by simpa using hs) (by simpa using hs)).mono ?_
  rintro e w' ⟨r, rfl, hr, hb⟩
  obtain rfl : r = true := hr.2 ⟨rfl, fun k => List.prefix_refl _⟩
  exact ⟨rfl, hb⟩

set_option maxHeartbeats 4000000 in
set_option maxRecDepth 100000 in
theorem known_any {B : Nat} (w : World) (hE : Env B w) : Calls Tryz.prog 4 #[] w fun e w' => e = .returned (.bool true) ∧ Below w.heap.size w w' := by
  have HL := hide fun (W : World) (h : Env B W) => line_pk W h
  have HP := hide fun (W : World) (h : Env B W) => parse_line W h
  have hb := (Below.refl _ w).alloc (Nat.le_refl _) (.cells #[.string ⟨#[97]⟩, .int .i64 0, .int .i64 10, .int .i64 3, .int .i64 2, .int .i64 3, .int .i64 6, .int .i64 (-2), .int .i64 7] 40)
  have hx : (w.alloc (.cells #[.string ⟨#[97]⟩, .int .i64 0, .int .i64 10, .int .i64 3, .int .i64 2, .int .i64 3, .int .i64 6, .int .i64 (-2), .int .i64 7] 40)).heap[w.heap.size]? = some (.cells #[.string ⟨#[97]⟩, .int .i64 0, .int .i64 10, .int .i64 3, .int .i64 2, .int .i64 3, .int .i64 6, .int .i64 (-2), .int .i64 7] 40 (0, 0)) := heap_alloc_new w _
  have HE1 := hide (hE.on hb)
  have HB1 := hide hb
  have HX1 := hide hx
  have heq : ∀ w : World, (binOp .eql 40 pkVal pkVal).run Tryz.prog w = .ok (.bool true) w := fun w => by kernel_rfl
  clear hE hb hx
  go_enter Tryz.func4, Tryz.ntmps4
  go_wp2_with fail
  (with_reducible refine (unhide HL _ HE1.out).mono ?_)
  rintro e w2 ⟨rfl, hb2⟩
  have HE2 := hide (HE1.out.on hb2)
  have HB2 := hide (p := Below w.heap.size w w2) (HB1.out.trans (hb2.mono HB1.out.size))
  have HX2 := hide ((hb2.block _ (Tr.lt_of_some HX1.out)).trans HX1.out)
  clear HE1 HB1 HX1 hb2
  go_wp2_with fail
  (with_reducible refine (unhide HP _ HE2.out).mono ?_)
  rintro e w3 ⟨rfl, hb3⟩
  have HB3 := hide (p := Below w.heap.size w w3) (HB2.out.trans (hb3.mono HB2.out.size))
  have hx3 := (hb3.block _ (Tr.lt_of_some HX2.out)).trans HX2.out
  have x0 : (w3.alloc (.cells #[.string ⟨#[97]⟩, .int .i64 0, .int .i64 10, .int .i64 3, .int .i64 2, .int .i64 3, .int .i64 6, .int .i64 (-2), .int .i64 7] 40)).cell? ⟨w.heap.size, 0, none⟩ = some (.string ⟨#[97]⟩) := by refine ka ?_; rw [cell_of_row w3 _ _ _ _ (0, 0) hx3]; rfl
  have x1 : (w3.alloc (.cells #[.string ⟨#[97]⟩, .int .i64 0, .int .i64 10, .int .i64 3, .int .i64 2, .int .i64 3, .int .i64 6, .int .i64 (-2), .int .i64 7] 40)).cell? ⟨w.heap.size, 1, none⟩ = some (.int .i64 0) := by refine ka ?_; rw [cell_of_row w3 _ _ _ _ (0, 0) hx3]; rfl
  have x2 : (w3.alloc (.cells #[.string ⟨#[97]⟩, .int .i64 0, .int .i64 10, .int .i64 3, .int .i64 2, .int .i64 3, .int .i64 6, .int .i64 (-2), .int .i64 7] 40)).cell? ⟨w.heap.size, 2, none⟩ = some (.int .i64 10) := by refine ka ?_; rw [cell_of_row w3 _ _ _ _ (0, 0) hx3]; rfl
  have x3 : (w3.alloc (.cells #[.string ⟨#[97]⟩, .int .i64 0, .int .i64 10, .int .i64 3, .int .i64 2, .int .i64 3, .int .i64 6, .int .i64 (-2), .int .i64 7] 40)).cell? ⟨w.heap.size, 3, none⟩ = some (.int .i64 3) := by refine ka ?_; rw [cell_of_row w3 _ _ _ _ (0, 0) hx3]; rfl
  have x4 : (w3.alloc (.cells #[.string ⟨#[97]⟩, .int .i64 0, .int .i64 10, .int .i64 3, .int .i64 2, .int .i64 3, .int .i64 6, .int .i64 (-2), .int .i64 7] 40)).cell? ⟨w.heap.size, 4, none⟩ = some (.int .i64 2) := by refine ka ?_; rw [cell_of_row w3 _ _ _ _ (0, 0) hx3]; rfl
  have x5 : (w3.alloc (.cells #[.string ⟨#[97]⟩, .int .i64 0, .int .i64 10, .int .i64 3, .int .i64 2, .int .i64 3, .int .i64 6, .int .i64 (-2), .int .i64 7] 40)).cell? ⟨w.heap.size, 5, none⟩ = some (.int .i64 3) := by refine ka ?_; rw [cell_of_row w3 _ _ _ _ (0, 0) hx3]; rfl
  have x6 : (w3.alloc (.cells #[.string ⟨#[97]⟩, .int .i64 0, .int .i64 10, .int .i64 3, .int .i64 2, .int .i64 3, .int .i64 6, .int .i64 (-2), .int .i64 7] 40)).cell? ⟨w.heap.size, 6, none⟩ = some (.int .i64 6) := by refine ka ?_; rw [cell_of_row w3 _ _ _ _ (0, 0) hx3]; rfl
  have x7 : (w3.alloc (.cells #[.string ⟨#[97]⟩, .int .i64 0, .int .i64 10, .int .i64 3, .int .i64 2, .int .i64 3, .int .i64 6, .int .i64 (-2), .int .i64 7] 40)).cell? ⟨w.heap.size, 7, none⟩ = some (.int .i64 (-2)) := by refine ka ?_; rw [cell_of_row w3 _ _ _ _ (0, 0) hx3]; rfl
  have x8 : (w3.alloc (.cells #[.string ⟨#[97]⟩, .int .i64 0, .int .i64 10, .int .i64 3, .int .i64 2, .int .i64 3, .int .i64 6, .int .i64 (-2), .int .i64 7] 40)).cell? ⟨w.heap.size, 8, none⟩ = some (.int .i64 7) := by refine ka ?_; rw [cell_of_row w3 _ _ _ _ (0, 0) hx3]; rfl
  clear hb3 HB2 HX2 HE2 hx3
  go_wp2_with fail
  have hA1 : (((w3.alloc (.cells #[.string ⟨#[97]⟩, .int .i64 0, .int .i64 10, .int .i64 3, .int .i64 2, .int .i64 3, .int .i64 6, .int .i64 (-2), .int .i64 7] 40)).alloc (.cells #[.string ⟨#[97]⟩, .int .i64 0, .int .i64 10, .int .i64 3, .int .i64 2, .int .i64 3, .int .i64 6, .int .i64 (-2), .int .i64 7] 40)).alloc (.cells #[.string ⟨#[97]⟩, .int .i64 0, .int .i64 10, .int .i64 3, .int .i64 2, .int .i64 3, .int .i64 6, .int .i64 (-2), .int .i64 7] 40)).heap[w3.heap.size + 1]? = some (.cells pk.cells.toArray 40 (0, 0)) := (Below.heap_alloc _ _ _ (by simp)).trans (by
    have := heap_alloc_new (w3.alloc (.cells #[.string ⟨#[97]⟩, .int .i64 0, .int .i64 10, .int .i64 3, .int .i64 2, .int .i64 3, .int .i64 6, .int .i64 (-2), .int .i64 7] 40)) (.cells #[.string ⟨#[97]⟩, .int .i64 0, .int .i64 10, .int .i64 3, .int .i64 2, .int .i64 3, .int .i64 6, .int .i64 (-2), .int .i64 7] 40)
    rw [World.size_alloc] at this
    exact this)
  have hA2 : (((w3.alloc (.cells #[.string ⟨#[97]⟩, .int .i64 0, .int .i64 10, .int .i64 3, .int .i64 2, .int .i64 3, .int .i64 6, .int .i64 (-2), .int .i64 7] 40)).alloc (.cells #[.string ⟨#[97]⟩, .int .i64 0, .int .i64 10, .int .i64 3, .int .i64 2, .int .i64 3, .int .i64 6, .int .i64 (-2), .int .i64 7] 40)).alloc (.cells #[.string ⟨#[97]⟩, .int .i64 0, .int .i64 10, .int .i64 3, .int .i64 2, .int .i64 3, .int .i64 6, .int .i64 (-2), .int .i64 7] 40)).heap[w3.heap.size + 1 + 1]? = some (.cells pk.cells.toArray 40 (0, 0)) := by
    have := heap_alloc_new ((w3.alloc (.cells #[.string ⟨#[97]⟩, .int .i64 0, .int .i64 10, .int .i64 3, .int .i64 2, .int .i64 3, .int .i64 6, .int .i64 (-2), .int .i64 7] 40)).alloc (.cells #[.string ⟨#[97]⟩, .int .i64 0, .int .i64 10, .int .i64 3, .int .i64 2, .int .i64 3, .int .i64 6, .int .i64 (-2), .int .i64 7] 40)) (.cells #[.string ⟨#[97]⟩, .int .i64 0, .int .i64 10, .int .i64 3, .int .i64 2, .int .i64 3, .int .i64 6, .int .i64 (-2), .int .i64 7] 40)
    rw [World.size_alloc, World.size_alloc] at this
    exact this
  have hBf : Below w.heap.size w (((w3.alloc (.cells #[.string ⟨#[97]⟩, .int .i64 0, .int .i64 10, .int .i64 3, .int .i64 2, .int .i64 3, .int .i64 6, .int .i64 (-2), .int .i64 7] 40)).alloc (.cells #[.string ⟨#[97]⟩, .int .i64 0, .int .i64 10, .int .i64 3, .int .i64 2, .int .i64 3, .int .i64 6, .int .i64 (-2), .int .i64 7] 40)).alloc (.cells #[.string ⟨#[97]⟩, .int .i64 0, .int .i64 10, .int .i64 3, .int .i64 2, .int .i64 3, .int .i64 6, .int .i64 (-2), .int .i64 7] 40)) := ((HB3.out.alloc HB3.out.size _).alloc (Nat.le_trans HB3.out.size (by simp)) _).alloc (Nat.le_trans HB3.out.size (by simp; omega)) _
  have hAl := alike_one _ (rd_one hA1) (rd_one hA2) (by decide)
  (with_reducible refine hAl.mono ?_)
  rintro e w5 ⟨rfl, hb5⟩
  have HB5 := hide (p := Below w.heap.size w w5) (hBf.trans (hb5.mono hBf.size))
  clear hAl hA1 hA2 hBf hb5 x0 x1 x2 x3 x4 x5 x6 x7 x8 HB3
  go_wp2_with fail
  go_ret
  exact ⟨rfl, HB5.out⟩
end Go.Proofs.YtciahchpdmajbaaGreatDoor
