/- The one pane of 'known': its line. -/
import Derived.Test.YtciahchpdmajbaaGreatDoorKn1
import Derived.Test.YtciahchpdmajbaaGreatDoorShelf
import Derived.Lib.AppendIntMem
import Derived.Lib.AtoiErrMem
namespace Go.Proofs.YtciahchpdmajbaaGreatDoor
open Go.RowKit
attribute [local go_sem ↓] Go.wp_at_zero Go.wp_at_succ

/-- What known asks of the world: the table of powers; a number in bytealg's variable. -/
def Env (B : Nat) (w : World) : Prop := Lib.TabBelow Tryz.prog B w "internal/strconv.uint64pow10" .u64 Lib.pow10Tab ∧ B ≤ w.heap.size ∧ 3 < B ∧ ∃ m, w.cell? ⟨3, 0, none⟩ = some (.int .i64 m)
theorem Env.on {B : Nat} {w w1 : World} (h : Env B w) (hb : Below w.heap.size w w1) : Env B w1 := by
  obtain ⟨h1, h2, h3, m, h4⟩ := h
  exact ⟨h1.on (hb.mono h2), Nat.le_trans h2 hb.size, h3, m, below_cell hb h4⟩
theorem below_grow_drewN (w : World) (k : Nat) (os : Array Obj) : Below w.heap.size w (Sort.grow (w.drewN k) os) := by
  have hd := below_drewN (Below.refl w.heap.size w) k
  refine ⟨hd.os, hd.tape, hd.output, ?_, fun i hi => ?_⟩
  · show _ ≤ (w.heap ++ os).size
    simp
  · show (w.heap ++ os)[i]? = w.heap[i]?
    rw [Array.getElem?_append_left hi]
theorem fmt_any {B : Nat} (n : Int) (s : ByteArray) (hs : (⟨(Lib.itoa n).toArray⟩ : ByteArray) = s) (h0 : -9223372036854775808 ≤ n) (h1 : n ≤ 9223372036854775807) (w : World) (h : Env B w) :
    Calls Tryz.prog 39 #[.int .i64 n, .int .i64 10] w fun e w' => e = .returned (.string s) ∧ Below w.heap.size w w' := by
  subst hs
  refine (Tryz.strconv_FormatInt_10 n h0 h1 w h.1.here).mono ?_
  rintro e w' ⟨rfl, k, os, rfl⟩
  exact ⟨rfl, below_grow_drewN _ _ _⟩

abbrev lineOf : ByteArray := ⟨#[34, 97, 34, 32, 108, 97, 116, 101, 32, 48, 32, 49, 48, 32, 50, 32, 51, 32, 54, 32, 45, 50, 32, 55]⟩
def LineDone (w : World) (e : Ending) (w' : World) : Prop := e = .returned (.tuple #[.string lineOf, .int .i64 0]) ∧ Below w.heap.size w w'
/-- Part way through Line's loop. -/
def lineAt : Nat → ByteArray
  | 0 => ⟨#[34, 97, 34, 32, 108, 97, 116, 101]⟩
  | 1 => ⟨#[34, 97, 34, 32, 108, 97, 116, 101, 32, 48]⟩
  | 2 => ⟨#[34, 97, 34, 32, 108, 97, 116, 101, 32, 48, 32, 49, 48]⟩
  | 3 => ⟨#[34, 97, 34, 32, 108, 97, 116, 101, 32, 48, 32, 49, 48, 32, 50]⟩
  | 4 => ⟨#[34, 97, 34, 32, 108, 97, 116, 101, 32, 48, 32, 49, 48, 32, 50, 32, 51]⟩
  | 5 => ⟨#[34, 97, 34, 32, 108, 97, 116, 101, 32, 48, 32, 49, 48, 32, 50, 32, 51, 32, 54]⟩
  | 6 => ⟨#[34, 97, 34, 32, 108, 97, 116, 101, 32, 48, 32, 49, 48, 32, 50, 32, 51, 32, 54, 32, 45, 50]⟩
  | _ => lineOf

set_option maxHeartbeats 4000000 in
set_option maxRecDepth 100000 in
theorem line_pk {B : Nat} (w : World) (hE : Env B w) : Calls Tryz.prog 19 #[pkVal] w (LineDone w) := by
  have HM := hide fun (w : World) => may_pk w
  have HQ := hide fun (w : World) => quote_a w
  have HN := hide fun (w : World) => names_any w
  have HU := hide fun (w : World) => numbers_pk w
  have hE1 := hE.on ((Below.refl _ w).alloc (Nat.le_refl _) (.cells pk.cells.toArray 40))
  have hb := (Below.refl _ w).alloc (Nat.le_refl _) (.cells pk.cells.toArray 40)
  have hbox : (w.alloc (.cells pk.cells.toArray 40)).heap[w.heap.size]? = some (.cells pk.cells.toArray 40 (0, 0)) := heap_alloc_new w _
  have HE := hide hE1
  have HB := hide hb
  have HX := hide hbox
  clear hE hE1 hb hbox
  have hi3 : ∀ w : World, (Instr.index 75 namesVal (.int .i64 3)).run Tryz.prog w = .ok (.string ⟨#[108, 97, 116, 101]⟩) w := fun w => by kernel_rfl
  go_enter Tryz.func19, Tryz.ntmps19
  go_wp2_with (go_at_call 35; (with_reducible refine (unhide HM _).mono ?_); rintro e w1 ⟨rfl, hb1⟩)
  have hx1 := (hb1.block _ (Tr.lt_of_some HX.out)).trans HX.out
  have x0 : w1.cell? ⟨w.heap.size, 0, none⟩ = some (.string ⟨#[97]⟩) := by rw [cell_of_row w1 _ _ _ _ (0, 0) hx1]; rfl
  have x1 : w1.cell? ⟨w.heap.size, 1, none⟩ = some (.int .i64 0) := by rw [cell_of_row w1 _ _ _ _ (0, 0) hx1]; rfl
  have x2 : w1.cell? ⟨w.heap.size, 2, none⟩ = some (.int .i64 10) := by rw [cell_of_row w1 _ _ _ _ (0, 0) hx1]; rfl
  have x3 : w1.cell? ⟨w.heap.size, 3, none⟩ = some (.int .i64 3) := by rw [cell_of_row w1 _ _ _ _ (0, 0) hx1]; rfl
  have x4 : w1.cell? ⟨w.heap.size, 4, none⟩ = some (.int .i64 2) := by rw [cell_of_row w1 _ _ _ _ (0, 0) hx1]; rfl
  have x5 : w1.cell? ⟨w.heap.size, 5, none⟩ = some (.int .i64 3) := by rw [cell_of_row w1 _ _ _ _ (0, 0) hx1]; rfl
  have x6 : w1.cell? ⟨w.heap.size, 6, none⟩ = some (.int .i64 6) := by rw [cell_of_row w1 _ _ _ _ (0, 0) hx1]; rfl
  have x7 : w1.cell? ⟨w.heap.size, 7, none⟩ = some (.int .i64 (-2)) := by rw [cell_of_row w1 _ _ _ _ (0, 0) hx1]; rfl
  have x8 : w1.cell? ⟨w.heap.size, 8, none⟩ = some (.int .i64 7) := by rw [cell_of_row w1 _ _ _ _ (0, 0) hx1]; rfl
  have HE1 := hide (HE.out.on hb1)
  have HB1 := hide (p := Below w.heap.size w w1) (HB.out.trans (hb1.mono HB.out.size))
  clear hb1 hx1
  go_region_held3 (fun w0 => w0.cell? ⟨w.heap.size, 0, none⟩ = some (.string ⟨#[97]⟩) ∧ w0.cell? ⟨w.heap.size, 1, none⟩ = some (.int .i64 0) ∧ w0.cell? ⟨w.heap.size, 2, none⟩ = some (.int .i64 10) ∧ w0.cell? ⟨w.heap.size, 3, none⟩ = some (.int .i64 3) ∧ w0.cell? ⟨w.heap.size, 4, none⟩ = some (.int .i64 2) ∧ w0.cell? ⟨w.heap.size, 5, none⟩ = some (.int .i64 3) ∧ w0.cell? ⟨w.heap.size, 6, none⟩ = some (.int .i64 6) ∧ w0.cell? ⟨w.heap.size, 7, none⟩ = some (.int .i64 (-2)) ∧ w0.cell? ⟨w.heap.size, 8, none⟩ = some (.int .i64 7))
    (first | exact ⟨kd x0, kd x1, kd x2, kd x3, kd x4, kd x5, kd x6, kd x7, kd x8⟩ | exact ⟨below_cell hc1 (kd x0), below_cell hc1 (kd x1), below_cell hc1 (kd x2), below_cell hc1 (kd x3), below_cell hc1 (kd x4), below_cell hc1 (kd x5), below_cell hc1 (kd x6), below_cell hc1 (kd x7), below_cell hc1 (kd x8)⟩ | exact ⟨below_cell hc2 (kd x0), below_cell hc2 (kd x1), below_cell hc2 (kd x2), below_cell hc2 (kd x3), below_cell hc2 (kd x4), below_cell hc2 (kd x5), below_cell hc2 (kd x6), below_cell hc2 (kd x7), below_cell hc2 (kd x8)⟩ | exact ⟨below_cell hc2 (below_cell hc1 (kd x0)), below_cell hc2 (below_cell hc1 (kd x1)), below_cell hc2 (below_cell hc1 (kd x2)), below_cell hc2 (below_cell hc1 (kd x3)), below_cell hc2 (below_cell hc1 (kd x4)), below_cell hc2 (below_cell hc1 (kd x5)), below_cell hc2 (below_cell hc1 (kd x6)), below_cell hc2 (below_cell hc1 (kd x7)), below_cell hc2 (below_cell hc1 (kd x8))⟩ | exact ⟨below_cell hc1 (below_cell hc2 (kd x0)), below_cell hc1 (below_cell hc2 (kd x1)), below_cell hc1 (below_cell hc2 (kd x2)), below_cell hc1 (below_cell hc2 (kd x3)), below_cell hc1 (below_cell hc2 (kd x4)), below_cell hc1 (below_cell hc2 (kd x5)), below_cell hc1 (below_cell hc2 (kd x6)), below_cell hc1 (below_cell hc2 (kd x7)), below_cell hc1 (below_cell hc2 (kd x8))⟩)
    (first | (go_at_call 36; (with_reducible refine (unhide HQ _).mono ?_); rintro e W1 ⟨rfl, hc1⟩) | (go_at_call 37; (with_reducible refine (unhide HN _).mono ?_); rintro e W2 ⟨rfl, hc2⟩))
  have HE2 := hide (((HE1.out.on (below_drewN (Below.refl _ w1) 1)).on hc1).on hc2)
  have HB2 := hide (p := Below w.heap.size w W2) ((HB1.out.drew.trans (hc1.mono HB1.out.size)).trans (hc2.mono (Nat.le_trans HB1.out.size hc1.size)))
  clear hc1 hc2 x0 x1 x2 x3 x4 x5 x6 x7 x8 hi3
  have hcat : Value.string (({ data := #[34, 97, 34] } : ByteArray) ++ { data := #[32] } ++ { data := #[108, 97, 116, 101] }) = .string (lineAt 0) := by kernel_rfl
  rw [hcat]
  clear hcat
  go_wp2_with (go_at_call 38; (with_reducible refine (unhide HU _).mono ?_); rintro e w3 ⟨rfl, hb3⟩)
  have HE3 := hide (HE2.out.on hb3)
  have HB3 := hide (p := Below w.heap.size w w3) (HB2.out.trans (hb3.mono HB2.out.size))
  clear hb3
  go_loopw [4, 6, 21] (fun s _ i wr => ∃ k : Nat, k ≤ 7 ∧ i = .int .i64 k ∧ Hid (s = .string (lineAt k)) ∧ Below w3.heap.size w3 wr) (fun _ _ i _ => 7 - (intOf i).toNat)
  case atStart => exact ⟨0, by omega, rfl, rfl, Below.refl _ _⟩
  case round =>
    obtain ⟨k, hk, rfl, hs, hb⟩ := hrel
    obtain rfl := hs.out
    have HER := hide (HE3.out.on hb)
    have hk8 : k = 0 ∨ k = 1 ∨ k = 2 ∨ k = 3 ∨ k = 4 ∨ k = 5 ∨ k = 6 ∨ k = 7 := by omega
    clear hk hs
    rcases hk8 with rfl | rfl | rfl | rfl | rfl | rfl | rfl | rfl
    · have hix : ∀ w : World, (Instr.index 77 numsVal (.int .i64 0)).run Tryz.prog w = .ok (.int .i64 0) w := fun w => by kernel_rfl
      have hcat : Hid (Value.string (lineAt 0 ++ (({ data := #[32] } : ByteArray) ++ { data := #[48] })) = .string (lineAt 1)) := (by kernel_rfl : Value.string (lineAt 0 ++ (({ data := #[32] } : ByteArray) ++ { data := #[48] })) = .string (lineAt 1))
      have HF := hide fun (W : World) (h : Env B W) => fmt_any (B := B) 0 ⟨#[48]⟩ (by kernel_rfl) (by decide) (by decide) W h
      go_wp2_with (go_at_call 39; (with_reducible refine (unhide HF _ HER.out).mono ?_); rintro e w4 ⟨rfl, hb4⟩)
      go_roundw
      case rel => exact ⟨1, by omega, by go_num, hcat, hb.trans (hb4.mono hb.size)⟩
      case measure => simp [intOf]
    · have hix : ∀ w : World, (Instr.index 77 numsVal (.int .i64 1)).run Tryz.prog w = .ok (.int .i64 10) w := fun w => by kernel_rfl
      have hcat : Hid (Value.string (lineAt 1 ++ (({ data := #[32] } : ByteArray) ++ { data := #[49, 48] })) = .string (lineAt 2)) := (by kernel_rfl : Value.string (lineAt 1 ++ (({ data := #[32] } : ByteArray) ++ { data := #[49, 48] })) = .string (lineAt 2))
      have HF := hide fun (W : World) (h : Env B W) => fmt_any (B := B) 10 ⟨#[49, 48]⟩ (by kernel_rfl) (by decide) (by decide) W h
      go_wp2_with (go_at_call 39; (with_reducible refine (unhide HF _ HER.out).mono ?_); rintro e w4 ⟨rfl, hb4⟩)
      go_roundw
      case rel => exact ⟨2, by omega, by go_num, hcat, hb.trans (hb4.mono hb.size)⟩
      case measure => simp [intOf]
    · have hix : ∀ w : World, (Instr.index 77 numsVal (.int .i64 2)).run Tryz.prog w = .ok (.int .i64 2) w := fun w => by kernel_rfl
      have hcat : Hid (Value.string (lineAt 2 ++ (({ data := #[32] } : ByteArray) ++ { data := #[50] })) = .string (lineAt 3)) := (by kernel_rfl : Value.string (lineAt 2 ++ (({ data := #[32] } : ByteArray) ++ { data := #[50] })) = .string (lineAt 3))
      have HF := hide fun (W : World) (h : Env B W) => fmt_any (B := B) 2 ⟨#[50]⟩ (by kernel_rfl) (by decide) (by decide) W h
      go_wp2_with (go_at_call 39; (with_reducible refine (unhide HF _ HER.out).mono ?_); rintro e w4 ⟨rfl, hb4⟩)
      go_roundw
      case rel => exact ⟨3, by omega, by go_num, hcat, hb.trans (hb4.mono hb.size)⟩
      case measure => simp [intOf]
    · have hix : ∀ w : World, (Instr.index 77 numsVal (.int .i64 3)).run Tryz.prog w = .ok (.int .i64 3) w := fun w => by kernel_rfl
      have hcat : Hid (Value.string (lineAt 3 ++ (({ data := #[32] } : ByteArray) ++ { data := #[51] })) = .string (lineAt 4)) := (by kernel_rfl : Value.string (lineAt 3 ++ (({ data := #[32] } : ByteArray) ++ { data := #[51] })) = .string (lineAt 4))
      have HF := hide fun (W : World) (h : Env B W) => fmt_any (B := B) 3 ⟨#[51]⟩ (by kernel_rfl) (by decide) (by decide) W h
      go_wp2_with (go_at_call 39; (with_reducible refine (unhide HF _ HER.out).mono ?_); rintro e w4 ⟨rfl, hb4⟩)
      go_roundw
      case rel => exact ⟨4, by omega, by go_num, hcat, hb.trans (hb4.mono hb.size)⟩
      case measure => simp [intOf]
    · have hix : ∀ w : World, (Instr.index 77 numsVal (.int .i64 4)).run Tryz.prog w = .ok (.int .i64 6) w := fun w => by kernel_rfl
      have hcat : Hid (Value.string (lineAt 4 ++ (({ data := #[32] } : ByteArray) ++ { data := #[54] })) = .string (lineAt 5)) := (by kernel_rfl : Value.string (lineAt 4 ++ (({ data := #[32] } : ByteArray) ++ { data := #[54] })) = .string (lineAt 5))
      have HF := hide fun (W : World) (h : Env B W) => fmt_any (B := B) 6 ⟨#[54]⟩ (by kernel_rfl) (by decide) (by decide) W h
      go_wp2_with (go_at_call 39; (with_reducible refine (unhide HF _ HER.out).mono ?_); rintro e w4 ⟨rfl, hb4⟩)
      go_roundw
      case rel => exact ⟨5, by omega, by go_num, hcat, hb.trans (hb4.mono hb.size)⟩
      case measure => simp [intOf]
    · have hix : ∀ w : World, (Instr.index 77 numsVal (.int .i64 5)).run Tryz.prog w = .ok (.int .i64 (-2)) w := fun w => by kernel_rfl
      have hcat : Hid (Value.string (lineAt 5 ++ (({ data := #[32] } : ByteArray) ++ { data := #[45, 50] })) = .string (lineAt 6)) := (by kernel_rfl : Value.string (lineAt 5 ++ (({ data := #[32] } : ByteArray) ++ { data := #[45, 50] })) = .string (lineAt 6))
      have HF := hide fun (W : World) (h : Env B W) => fmt_any (B := B) (-2) ⟨#[45, 50]⟩ (by kernel_rfl) (by decide) (by decide) W h
      go_wp2_with (go_at_call 39; (with_reducible refine (unhide HF _ HER.out).mono ?_); rintro e w4 ⟨rfl, hb4⟩)
      go_roundw
      case rel => exact ⟨6, by omega, by go_num, hcat, hb.trans (hb4.mono hb.size)⟩
      case measure => simp [intOf]
    · have hix : ∀ w : World, (Instr.index 77 numsVal (.int .i64 6)).run Tryz.prog w = .ok (.int .i64 7) w := fun w => by kernel_rfl
      have hcat : Hid (Value.string (lineAt 6 ++ (({ data := #[32] } : ByteArray) ++ { data := #[55] })) = .string (lineAt 7)) := (by kernel_rfl : Value.string (lineAt 6 ++ (({ data := #[32] } : ByteArray) ++ { data := #[55] })) = .string (lineAt 7))
      have HF := hide fun (W : World) (h : Env B W) => fmt_any (B := B) 7 ⟨#[55]⟩ (by kernel_rfl) (by decide) (by decide) W h
      go_wp2_with (go_at_call 39; (with_reducible refine (unhide HF _ HER.out).mono ?_); rintro e w4 ⟨rfl, hb4⟩)
      go_roundw
      case rel => exact ⟨7, by omega, by go_num, hcat, hb.trans (hb4.mono hb.size)⟩
      case measure => simp [intOf]
    · go_wp2_with fail
      go_ret2
      exact ⟨rfl, HB3.out.trans (hb.mono HB3.out.size)⟩
end Go.Proofs.YtciahchpdmajbaaGreatDoor
