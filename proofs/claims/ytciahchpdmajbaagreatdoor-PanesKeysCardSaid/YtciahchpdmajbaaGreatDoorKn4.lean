/- The one pane of 'known': read off its line. -/
import Derived.Test.YtciahchpdmajbaaGreatDoorKn3
namespace Go.Proofs.YtciahchpdmajbaaGreatDoor
open Go.RowKit
attribute [local go_sem ↓] Go.wp_at_zero Go.wp_at_succ

abbrev partsOf : List Value := [.string ⟨#[]⟩, .string ⟨#[108, 97, 116, 101]⟩, .string ⟨#[48]⟩, .string ⟨#[49, 48]⟩, .string ⟨#[50]⟩, .string ⟨#[51]⟩, .string ⟨#[54]⟩, .string ⟨#[45, 50]⟩, .string ⟨#[55]⟩]
def SplitDone (w : World) (e : Ending) (w' : World) : Prop := e = .returned (.slice (some ⟨w.heap.size, 0, none⟩) 9 9) ∧ w'.heap[w.heap.size]? = some (.cells partsOf.toArray 9 (0, 0)) ∧ Below w.heap.size w w'
theorem split_rest {B : Nat} (w : World) (h : Env B w) : Calls Tryz.prog 41 #[.string restOf, .string ⟨#[32]⟩] w (SplitDone w) := by
  obtain ⟨_, _, _, m, hm⟩ := h
  refine (Tryz.strings_Split restOf ⟨#[32]⟩ m w (by decide) hm (by decide)).mono ?_
  have h1 : Lib.countB restOf ⟨#[32]⟩ = 8 := by kernel_rfl
  have h2 : ((Lib.splitB ⟨#[32]⟩ 0 8 restOf).map Value.string) = partsOf := by kernel_rfl
  rw [h1, h2]
  rintro e w' ⟨rfl, rfl⟩
  exact ⟨rfl, heap_alloc_new w _, (Below.refl _ w).alloc (Nat.le_refl _) _⟩
theorem parse_num (s : ByteArray) (v : Int) (hs : s.size ≤ 9223372036854775806) (h : Lib.parseIntB 64 s.data.toList = .ok v) (w : World) :
    Calls Tryz.prog 42 #[.string s, .int .i64 10, .int .i64 64] w fun e w' => e = .returned (.tuple #[.int .i64 v, .nilIface]) ∧ Below w.heap.size w w' := by
  refine (Tryz.strconv_ParseInt_10_at64_ok s hs v h w).mono ?_
  rintro e w' ⟨rfl, h⟩
  refine ⟨rfl, ?_⟩
  rcases h with rfl | ⟨t, rfl⟩
  · exact Below.refl _ _
  · exact Lib.bytesWorld_below _ _ _
def ParseDone (w : World) (e : Ending) (w' : World) : Prop := e = .returned (.tuple #[pkVal, .int .i64 0]) ∧ Below w.heap.size w w'

/-- The pane's cells, part way through Parse's second loop. -/
def pA : Nat → Array Value
  | 0 => #[.string ⟨#[97]⟩, .int .i64 0, .int .i64 0, .int .i64 3, .int .i64 0, .int .i64 0, .int .i64 0, .int .i64 0, .int .i64 0]
  | 1 => #[.string ⟨#[97]⟩, .int .i64 0, .int .i64 0, .int .i64 3, .int .i64 0, .int .i64 0, .int .i64 0, .int .i64 0, .int .i64 0]
  | 2 => #[.string ⟨#[97]⟩, .int .i64 0, .int .i64 10, .int .i64 3, .int .i64 0, .int .i64 0, .int .i64 0, .int .i64 0, .int .i64 0]
  | 3 => #[.string ⟨#[97]⟩, .int .i64 0, .int .i64 10, .int .i64 3, .int .i64 2, .int .i64 0, .int .i64 0, .int .i64 0, .int .i64 0]
  | 4 => #[.string ⟨#[97]⟩, .int .i64 0, .int .i64 10, .int .i64 3, .int .i64 2, .int .i64 3, .int .i64 0, .int .i64 0, .int .i64 0]
  | 5 => #[.string ⟨#[97]⟩, .int .i64 0, .int .i64 10, .int .i64 3, .int .i64 2, .int .i64 3, .int .i64 6, .int .i64 0, .int .i64 0]
  | 6 => #[.string ⟨#[97]⟩, .int .i64 0, .int .i64 10, .int .i64 3, .int .i64 2, .int .i64 3, .int .i64 6, .int .i64 (-2), .int .i64 0]
  | _ => #[.string ⟨#[97]⟩, .int .i64 0, .int .i64 10, .int .i64 3, .int .i64 2, .int .i64 3, .int .i64 6, .int .i64 (-2), .int .i64 7]
abbrev ptrsOf (PB : Nat) : Array Value := #[.pointer (some ⟨PB, 1, none⟩), .pointer (some ⟨PB, 2, none⟩), .pointer (some ⟨PB, 4, none⟩), .pointer (some ⟨PB, 5, none⟩), .pointer (some ⟨PB, 6, none⟩), .pointer (some ⟨PB, 7, none⟩), .pointer (some ⟨PB, 8, none⟩)]
def PInv (B SB PB QB : Nat) (w : World) (k : Nat) (wr : World) : Prop :=
  wr.heap[SB]? = some (.cells partsOf.toArray 9 (0, 0)) ∧ wr.heap[PB]? = some (.cells (pA k) 40 (0, 0)) ∧ wr.heap[QB]? = some (.cells (ptrsOf PB) 83 (0, 0)) ∧ wr.heap[w.heap.size]? = some (.cells #[.string ⟨#[]⟩, .int .i64 0, .int .i64 0, .int .i64 0, .int .i64 0, .int .i64 0, .int .i64 0, .int .i64 0, .int .i64 0] 40 (0, 0)) ∧ Env B wr ∧ Below w.heap.size w wr
theorem PInv.below {B SB PB QB : Nat} {w : World} {k : Nat} {wr wr' : World} (h : PInv B SB PB QB w k wr) (hb : Below wr.heap.size wr wr') : PInv B SB PB QB w k wr' := by
  obtain ⟨h1, h2, h3, h4, h5, h6⟩ := h
  exact ⟨(hb.block _ (Tr.lt_of_some h1)).trans h1, (hb.block _ (Tr.lt_of_some h2)).trans h2, (hb.block _ (Tr.lt_of_some h3)).trans h3, (hb.block _ (Tr.lt_of_some h4)).trans h4, h5.on hb, h6.trans (hb.mono h6.size)⟩
theorem below_set9' {B b : Nat} {w W : World} (h : Below B w W) (hb : B ≤ b) (v0 v1 v2 v3 v4 v5 v6 v7 v8 : Value) : Below B w (((((((((W.setCell ⟨b, 0, none⟩ v0).setCell ⟨b, 1, none⟩ v1).setCell ⟨b, 2, none⟩ v2).setCell ⟨b, 3, none⟩ v3).setCell ⟨b, 4, none⟩ v4).setCell ⟨b, 5, none⟩ v5).setCell ⟨b, 6, none⟩ v6).setCell ⟨b, 7, none⟩ v7).setCell ⟨b, 8, none⟩ v8) :=
  ((((((((h.setCell (p := ⟨b, 0, none⟩) hb _).setCell (p := ⟨b, 1, none⟩) hb _).setCell (p := ⟨b, 2, none⟩) hb _).setCell (p := ⟨b, 3, none⟩) hb _).setCell (p := ⟨b, 4, none⟩) hb _).setCell (p := ⟨b, 5, none⟩) hb _).setCell (p := ⟨b, 6, none⟩) hb _).setCell (p := ⟨b, 7, none⟩) hb _).setCell (p := ⟨b, 8, none⟩) hb _
theorem Env.set {B : Nat} {w : World} (h : Env B w) {b : Nat} (hb : B ≤ b) (o : Nat) (v : Value) : Env B (w.setCell ⟨b, o, none⟩ v) := by
  obtain ⟨h1, h2, h3, m, h4⟩ := h
  refine ⟨h1.on ((Below.refl B w).setCell (p := ⟨b, o, none⟩) hb v), by rw [World.size_setCell]; exact h2, h3, m, ?_⟩
  have hbl := (Below.refl 4 w).setCell (p := ⟨b, o, none⟩) (show 4 ≤ b by omega) v
  rw [hbl.cell (p := ⟨3, 0, none⟩) (by decide)]
  exact h4
theorem PInv.set {B SB PB QB : Nat} {w : World} {k o : Nat} {v : Value} {wr : World} (h : PInv B SB PB QB w k wr) (hp : (pA k).setIfInBounds o v = pA (k + 1)) (hB : B ≤ w.heap.size) (h1 : w.heap.size < SB) (h2 : SB < PB) (h3 : PB < QB) :
    PInv B SB PB QB w (k + 1) (wr.setCell ⟨PB, o, none⟩ v) := by
  obtain ⟨g1, g2, g3, g4, g5, g6⟩ := h
  refine ⟨(Below.heap_setCell _ _ _ _ (show SB ≠ PB by omega)).trans g1, ?_, (Below.heap_setCell _ _ _ _ (show QB ≠ PB by omega)).trans g3, (Below.heap_setCell _ _ _ _ (show w.heap.size ≠ PB by omega)).trans g4, g5.set (by omega) _ _, g6.setCell (p := ⟨PB, o, none⟩) (by show w.heap.size ≤ PB; omega) _⟩
  rw [← hp]
  exact setCell_block g2 o v

set_option maxHeartbeats 4000000 in
set_option maxRecDepth 100000 in
theorem parse_line {B : Nat} (w : World) (hE : Env B w) : Calls Tryz.prog 20 #[.string lineOf] w (ParseDone w) := by
  have HM := hide fun (w : World) => may_pk w
  have HU := hide fun (w : World) => unquote_line w
  have HN := hide fun (w : World) => names_any w
  have HS := hide fun (w : World) (h : Env B w) => split_rest w h
  have hE1 := hE.on ((Below.refl _ w).alloc (Nat.le_refl _) (.cells #[.string ⟨#[]⟩, .int .i64 0, .int .i64 0, .int .i64 0, .int .i64 0, .int .i64 0, .int .i64 0, .int .i64 0, .int .i64 0] 40))
  have hb := (Below.refl _ w).alloc (Nat.le_refl _) (.cells #[.string ⟨#[]⟩, .int .i64 0, .int .i64 0, .int .i64 0, .int .i64 0, .int .i64 0, .int .i64 0, .int .i64 0, .int .i64 0] 40)
  have HBW : Hid (B ≤ w.heap.size) := hE.2.1
  have HE := hide hE1
  have HB := hide hb
  clear hE hE1 hb
  go_enter Tryz.func20, Tryz.ntmps20
  go_wp2_with (go_at_call 40; (with_reducible refine (unhide HU _).mono ?_); rintro e w1 ⟨rfl, hb1⟩)
  -- behind unquote
  have hZ0 : (w.alloc (.cells #[.string ⟨#[]⟩, .int .i64 0, .int .i64 0, .int .i64 0, .int .i64 0, .int .i64 0, .int .i64 0, .int .i64 0, .int .i64 0] 40)).heap[w.heap.size]? = some (.cells #[.string ⟨#[]⟩, .int .i64 0, .int .i64 0, .int .i64 0, .int .i64 0, .int .i64 0, .int .i64 0, .int .i64 0, .int .i64 0] 40 (0, 0)) := heap_alloc_new w _
  have hR1 := (hb1.block _ (Tr.lt_of_some hZ0)).trans hZ0
  have hE1 := HE.out.on hb1
  have hB1 := HB.out.trans (hb1.mono HB.out.size)
  (with_reducible refine (unhide HS _ hE1).mono ?_)
  rintro e w2 ⟨rfl, hS2, hb2⟩
  obtain ⟨SB, hSB⟩ : ∃ SB, SB = w1.heap.size := ⟨_, rfl⟩
  rw [← hSB] at hS2 ⊢
  have hR2 := (hb2.block _ (Tr.lt_of_some hR1)).trans hR1
  have HE2 := hide (hE1.on hb2)
  have HB2 := hide (p := Below w.heap.size w w2) (hB1.trans (hb2.mono hB1.size))
  have HSR : Hid (w.heap.size < SB) := by have := Tr.lt_of_some hR1; show _ < _; omega
  clear hZ0 hR1 hE1 hB1 hb1 hb2 hSB HE HB HS HU
  have s0 : w2.cell? ⟨SB, 0, none⟩ = some (.string ⟨#[]⟩) := by rw [cell_of_row w2 _ _ _ _ (0, 0) hS2]; rfl
  have s1 : w2.cell? ⟨SB, 1, none⟩ = some (.string ⟨#[108, 97, 116, 101]⟩) := by rw [cell_of_row w2 _ _ _ _ (0, 0) hS2]; rfl
  have HS2 := hide hS2
  have HR2 := hide hR2
  clear hS2 hR2
  go_wp2_with fail
  have hE2 := HE2.out.on ((Below.refl _ w2).alloc (Nat.le_refl _) (.cells #[.string ⟨#[97]⟩, .int .i64 0, .int .i64 0, .int .i64 0, .int .i64 0, .int .i64 0, .int .i64 0, .int .i64 0, .int .i64 0] 40))
  have hB2 : Below w.heap.size w (w2.alloc (.cells #[.string ⟨#[97]⟩, .int .i64 0, .int .i64 0, .int .i64 0, .int .i64 0, .int .i64 0, .int .i64 0, .int .i64 0, .int .i64 0] 40)) := HB2.out.alloc HB2.out.size _
  have hS2 := (Below.heap_alloc w2 (.cells #[.string ⟨#[97]⟩, .int .i64 0, .int .i64 0, .int .i64 0, .int .i64 0, .int .i64 0, .int .i64 0, .int .i64 0, .int .i64 0] 40) _ (Tr.lt_of_some HS2.out)).trans HS2.out
  have hR2 := (Below.heap_alloc w2 (.cells #[.string ⟨#[97]⟩, .int .i64 0, .int .i64 0, .int .i64 0, .int .i64 0, .int .i64 0, .int .i64 0, .int .i64 0, .int .i64 0] 40) _ (Tr.lt_of_some HR2.out)).trans HR2.out
  have hP2 : (w2.alloc (.cells #[.string ⟨#[97]⟩, .int .i64 0, .int .i64 0, .int .i64 0, .int .i64 0, .int .i64 0, .int .i64 0, .int .i64 0, .int .i64 0] 40)).heap[w2.heap.size]? = some (.cells #[.string ⟨#[97]⟩, .int .i64 0, .int .i64 0, .int .i64 0, .int .i64 0, .int .i64 0, .int .i64 0, .int .i64 0, .int .i64 0] 40 (0, 0)) := heap_alloc_new w2 _
  have HSP : Hid (SB < w2.heap.size) := Tr.lt_of_some HS2.out
  (with_reducible refine (unhide HN _).mono ?_)
  rintro e w3 ⟨rfl, hb3⟩
  obtain ⟨PB, hPB⟩ : ∃ PB, PB = w2.heap.size := ⟨_, rfl⟩
  rw [← hPB] at hP2 HSP ⊢
  have HE3 := hide (hE2.on hb3)
  have HB3 := hide (p := Below w.heap.size w w3) (hB2.trans (hb3.mono hB2.size))
  have HS3 := hide ((hb3.block _ (Tr.lt_of_some hS2)).trans hS2)
  have HR3 := hide ((hb3.block _ (Tr.lt_of_some hR2)).trans hR2)
  have HP3 := hide ((hb3.block _ (Tr.lt_of_some hP2)).trans hP2)
  clear hE2 hB2 hS2 hR2 hP2 hb3 hPB HS2 HR2 HE2 HB2 s0 s1
  go_wp2_with fail
  go_loopw [9, 10, 46] (fun _ _ i wr => ∃ k : Nat, k ≤ 4 ∧ i = .int .i64 k ∧ Hid (k ≤ 3 → wr = w3) ∧ Hid (k = 4 → wr = w3.setCell ⟨PB, 3, none⟩ (.int .i64 3))) (fun _ _ i _ => 4 - (intOf i).toNat)
  case atStart => exact ⟨0, by omega, rfl, fun _ => rfl, fun h => by cases h⟩
  case round =>
    obtain ⟨k, hk, rfl, h3, h4⟩ := hrel
    have hk5 : k = 0 ∨ k = 1 ∨ k = 2 ∨ k = 3 ∨ k = 4 := by omega
    clear hk
    rcases hk5 with rfl | rfl | rfl | rfl | rfl
    · obtain rfl := h3.out (by omega)
      clear h3 h4
      have hix : ∀ w : World, (Instr.index 75 namesVal (.int .i64 0)).run Tryz.prog w = .ok (.string ⟨#[]⟩) w := fun w => by kernel_rfl
      have s1 : wr.cell? ⟨SB, 1, none⟩ = some (.string ⟨#[108, 97, 116, 101]⟩) := by rw [cell_of_row wr _ _ _ _ (0, 0) HS3.out]; rfl
      go_wp2_with fail
      go_roundw
      case rel => exact ⟨1, by omega, by go_num, fun _ => by first | rfl | trivial, fun h => by cases h⟩
      case measure => simp [intOf]
    · obtain rfl := h3.out (by omega)
      clear h3 h4
      have hix : ∀ w : World, (Instr.index 75 namesVal (.int .i64 1)).run Tryz.prog w = .ok (.string ⟨#[101, 97, 114, 108, 121]⟩) w := fun w => by kernel_rfl
      have s1 : wr.cell? ⟨SB, 1, none⟩ = some (.string ⟨#[108, 97, 116, 101]⟩) := by rw [cell_of_row wr _ _ _ _ (0, 0) HS3.out]; rfl
      go_wp2_with fail
      go_roundw
      case rel => exact ⟨2, by omega, by go_num, fun _ => by first | rfl | trivial, fun h => by cases h⟩
      case measure => simp [intOf]
    · obtain rfl := h3.out (by omega)
      clear h3 h4
      have hix : ∀ w : World, (Instr.index 75 namesVal (.int .i64 2)).run Tryz.prog w = .ok (.string ⟨#[111, 110, 116, 105, 109, 101]⟩) w := fun w => by kernel_rfl
      have s1 : wr.cell? ⟨SB, 1, none⟩ = some (.string ⟨#[108, 97, 116, 101]⟩) := by rw [cell_of_row wr _ _ _ _ (0, 0) HS3.out]; rfl
      go_wp2_with fail
      go_roundw
      case rel => exact ⟨3, by omega, by go_num, fun _ => by first | rfl | trivial, fun h => by cases h⟩
      case measure => simp [intOf]
    · obtain rfl := h3.out (by omega)
      clear h3 h4
      have hix : ∀ w : World, (Instr.index 75 namesVal (.int .i64 3)).run Tryz.prog w = .ok (.string ⟨#[108, 97, 116, 101]⟩) w := fun w => by kernel_rfl
      have s1 : wr.cell? ⟨SB, 1, none⟩ = some (.string ⟨#[108, 97, 116, 101]⟩) := by rw [cell_of_row wr _ _ _ _ (0, 0) HS3.out]; rfl
      have p3 : wr.cell? ⟨PB, 3, none⟩ = some (.int .i64 0) := by rw [cell_of_row wr _ _ _ _ (0, 0) HP3.out]; rfl
      have f3 := frozen_of_block HP3.out 3
      go_wp2_with fail
      go_roundw
      case rel => exact ⟨4, by omega, by go_num, fun h => absurd h (by omega), fun _ => by first | rfl | trivial⟩
      case measure => simp [intOf]
    · obtain rfl := h4.out rfl
      clear h3 h4
      have e4 : ((4 : Nat) : Int) = 4 := rfl
      rw [e4]
      clear e4
      have hP4 : (w3.setCell ⟨PB, 3, none⟩ (.int .i64 3)).heap[PB]? = some (.cells #[.string ⟨#[97]⟩, .int .i64 0, .int .i64 0, .int .i64 3, .int .i64 0, .int .i64 0, .int .i64 0, .int .i64 0, .int .i64 0] 40 (0, 0)) := setCell_block HP3.out 3 (.int .i64 3)
      have hS4 := (Below.heap_setCell w3 ⟨PB, 3, none⟩ (.int .i64 3) SB (by have := HSP.out; show SB ≠ PB; omega)).trans HS3.out
      have hR4 := (Below.heap_setCell w3 ⟨PB, 3, none⟩ (.int .i64 3) w.heap.size (by have := HSP.out; have := HSR.out; show w.heap.size ≠ PB; omega)).trans HR3.out
      have hE4 := HE3.out.set (b := PB) (by have := HSP.out; have := HSR.out; have := HBW.out; omega) 3 (.int .i64 3)
      have hB4 := HB3.out.setCell (p := ⟨PB, 3, none⟩) (by have := HSP.out; have := HSR.out; show w.heap.size ≤ PB; omega) (.int .i64 3)
      have hPS : PB < (w3.setCell ⟨PB, 3, none⟩ (.int .i64 3)).heap.size := Tr.lt_of_some hP4
      obtain ⟨w4, hw4⟩ : ∃ w4, w4 = w3.setCell ⟨PB, 3, none⟩ (.int .i64 3) := ⟨_, rfl⟩
      rw [← hw4] at hP4 hS4 hR4 hE4 hB4 hPS ⊢
      have hba := (Below.refl w4.heap.size w4).alloc (Nat.le_refl _) (.cells (ptrsOf PB) 83)
      have HI : Hid (PInv B SB PB w4.heap.size w 0 (w4.alloc (.cells (ptrsOf PB) 83))) :=
        ⟨(Below.heap_alloc _ _ _ (Tr.lt_of_some hS4)).trans hS4, (Below.heap_alloc _ _ _ (Tr.lt_of_some hP4)).trans hP4, heap_alloc_new w4 _, (Below.heap_alloc _ _ _ (Tr.lt_of_some hR4)).trans hR4, hE4.on hba, hB4.alloc hB4.size _⟩
      have HPQ := hide hPS
      clear hw4 hP4 hS4 hR4 hE4 hB4 hPS hba HS3 HP3 HR3 HE3 HB3
      go_wp2_with fail
      go_loopw [11, 12, 13, 14, 73] (fun _ _ _ _ i wr => ∃ k : Nat, k ≤ 7 ∧ i = .int .i64 k ∧ Hid (PInv B SB PB w4.heap.size w k wr)) (fun _ _ _ _ i _ => 7 - (intOf i).toNat)
      case atStart => exact ⟨0, by omega, rfl, HI⟩
      case round =>
        clear HI
        obtain ⟨k, hk, rfl, hI⟩ := hrel
        have hk8 : k = 0 ∨ k = 1 ∨ k = 2 ∨ k = 3 ∨ k = 4 ∨ k = 5 ∨ k = 6 ∨ k = 7 := by omega
        clear hk
        rcases hk8 with rfl | rfl | rfl | rfl | rfl | rfl | rfl | rfl
        · have q0 : wr.cell? ⟨w4.heap.size, 0, none⟩ = some (.pointer (some ⟨PB, 1, none⟩)) := by rw [cell_of_row wr _ _ _ _ (0, 0) hI.out.2.2.1]; rfl
          have s0 : wr.cell? ⟨SB, 2, none⟩ = some (.string ⟨#[48]⟩) := by rw [cell_of_row wr _ _ _ _ (0, 0) hI.out.1]; rfl
          have HPI := hide fun (W : World) => parse_num ⟨#[48]⟩ 0 (by decide) (by kernel_rfl) W
          have HF := hide fun (W : World) (h : Env B W) => fmt_any (B := B) 0 ⟨#[48]⟩ (by kernel_rfl) (by decide) (by decide) W h
          go_wp2_with (go_at_call 42; (with_reducible refine (unhide HPI _).mono ?_); rintro e w5 ⟨rfl, hb5⟩)
          have HI5 := hide (hI.out.below hb5)
          have s1 : w5.cell? ⟨SB, 2, none⟩ = some (.string ⟨#[48]⟩) := below_cell hb5 s0
          clear hb5 s0 q0
          have HE5 := hide (HI5.out.2.2.2.2.1.on (Below.refl _ w5).drew)
          have hwa : IntKind.i64.wrap (2 + 0) = 2 := by decide
          have hwb : IntKind.i64.wrap 2 = 2 := by decide
          have hwc : (2 : Int).toNat = 2 := rfl
          go_region_held3 (fun w0 => w0.cell? ⟨SB, 2, none⟩ = some (.string ⟨#[48]⟩)) (first | exact kd s1 | exact below_cell hb6 (kd s1)) ((go_at_call 39; (with_reducible refine (unhide HF _ HE5.out).mono ?_); rintro e w6 ⟨rfl, hb6⟩))
          all_goals clear hwa hwb hwc
          all_goals
            have HI6 := hide (p := PInv B SB PB w4.heap.size w 0 w6) ((HI5.out.below (Below.refl _ w5).drew).below hb6)
            have p0 : w6.cell? ⟨PB, 1, none⟩ = some (.int .i64 0) := by rw [cell_of_row w6 _ _ _ _ (0, 0) HI6.out.2.1]; rfl
            have f0 := frozen_of_block HI6.out.2.1 1
            clear hb6 s1
            go_wp2_with fail
            go_roundw
            case rel => exact ⟨1, by omega, by go_num, hide (PInv.set (o := 1) (v := .int .i64 0) HI6.out rfl HBW.out HSR.out HSP.out HPQ.out)⟩
            case measure => simp [intOf]
        · have q1 : wr.cell? ⟨w4.heap.size, 1, none⟩ = some (.pointer (some ⟨PB, 2, none⟩)) := by rw [cell_of_row wr _ _ _ _ (0, 0) hI.out.2.2.1]; rfl
          have s0 : wr.cell? ⟨SB, 3, none⟩ = some (.string ⟨#[49, 48]⟩) := by rw [cell_of_row wr _ _ _ _ (0, 0) hI.out.1]; rfl
          have HPI := hide fun (W : World) => parse_num ⟨#[49, 48]⟩ 10 (by decide) (by kernel_rfl) W
          have HF := hide fun (W : World) (h : Env B W) => fmt_any (B := B) 10 ⟨#[49, 48]⟩ (by kernel_rfl) (by decide) (by decide) W h
          go_wp2_with (go_at_call 42; (with_reducible refine (unhide HPI _).mono ?_); rintro e w5 ⟨rfl, hb5⟩)
          have HI5 := hide (hI.out.below hb5)
          have s1 : w5.cell? ⟨SB, 3, none⟩ = some (.string ⟨#[49, 48]⟩) := below_cell hb5 s0
          clear hb5 s0 q1
          have HE5 := hide (HI5.out.2.2.2.2.1.on (Below.refl _ w5).drew)
          have hwa : IntKind.i64.wrap (2 + 1) = 3 := by decide
          have hwb : IntKind.i64.wrap 3 = 3 := by decide
          have hwc : (3 : Int).toNat = 3 := rfl
          go_region_held3 (fun w0 => w0.cell? ⟨SB, 3, none⟩ = some (.string ⟨#[49, 48]⟩)) (first | exact kd s1 | exact below_cell hb6 (kd s1)) ((go_at_call 39; (with_reducible refine (unhide HF _ HE5.out).mono ?_); rintro e w6 ⟨rfl, hb6⟩))
          all_goals clear hwa hwb hwc
          all_goals
            have HI6 := hide (p := PInv B SB PB w4.heap.size w 1 w6) ((HI5.out.below (Below.refl _ w5).drew).below hb6)
            have p0 : w6.cell? ⟨PB, 2, none⟩ = some (.int .i64 0) := by rw [cell_of_row w6 _ _ _ _ (0, 0) HI6.out.2.1]; rfl
            have f0 := frozen_of_block HI6.out.2.1 2
            clear hb6 s1
            go_wp2_with fail
            go_roundw
            case rel => exact ⟨2, by omega, by go_num, hide (PInv.set (o := 2) (v := .int .i64 10) HI6.out rfl HBW.out HSR.out HSP.out HPQ.out)⟩
            case measure => simp [intOf]
        · have q2 : wr.cell? ⟨w4.heap.size, 2, none⟩ = some (.pointer (some ⟨PB, 4, none⟩)) := by rw [cell_of_row wr _ _ _ _ (0, 0) hI.out.2.2.1]; rfl
          have s0 : wr.cell? ⟨SB, 4, none⟩ = some (.string ⟨#[50]⟩) := by rw [cell_of_row wr _ _ _ _ (0, 0) hI.out.1]; rfl
          have HPI := hide fun (W : World) => parse_num ⟨#[50]⟩ 2 (by decide) (by kernel_rfl) W
          have HF := hide fun (W : World) (h : Env B W) => fmt_any (B := B) 2 ⟨#[50]⟩ (by kernel_rfl) (by decide) (by decide) W h
          go_wp2_with (go_at_call 42; (with_reducible refine (unhide HPI _).mono ?_); rintro e w5 ⟨rfl, hb5⟩)
          have HI5 := hide (hI.out.below hb5)
          have s1 : w5.cell? ⟨SB, 4, none⟩ = some (.string ⟨#[50]⟩) := below_cell hb5 s0
          clear hb5 s0 q2
          have HE5 := hide (HI5.out.2.2.2.2.1.on (Below.refl _ w5).drew)
          have hwa : IntKind.i64.wrap (2 + 2) = 4 := by decide
          have hwb : IntKind.i64.wrap 4 = 4 := by decide
          have hwc : (4 : Int).toNat = 4 := rfl
          go_region_held3 (fun w0 => w0.cell? ⟨SB, 4, none⟩ = some (.string ⟨#[50]⟩)) (first | exact kd s1 | exact below_cell hb6 (kd s1)) ((go_at_call 39; (with_reducible refine (unhide HF _ HE5.out).mono ?_); rintro e w6 ⟨rfl, hb6⟩))
          all_goals clear hwa hwb hwc
          all_goals
            have HI6 := hide (p := PInv B SB PB w4.heap.size w 2 w6) ((HI5.out.below (Below.refl _ w5).drew).below hb6)
            have p0 : w6.cell? ⟨PB, 4, none⟩ = some (.int .i64 0) := by rw [cell_of_row w6 _ _ _ _ (0, 0) HI6.out.2.1]; rfl
            have f0 := frozen_of_block HI6.out.2.1 4
            clear hb6 s1
            go_wp2_with fail
            go_roundw
            case rel => exact ⟨3, by omega, by go_num, hide (PInv.set (o := 4) (v := .int .i64 2) HI6.out rfl HBW.out HSR.out HSP.out HPQ.out)⟩
            case measure => simp [intOf]
        · have q3 : wr.cell? ⟨w4.heap.size, 3, none⟩ = some (.pointer (some ⟨PB, 5, none⟩)) := by rw [cell_of_row wr _ _ _ _ (0, 0) hI.out.2.2.1]; rfl
          have s0 : wr.cell? ⟨SB, 5, none⟩ = some (.string ⟨#[51]⟩) := by rw [cell_of_row wr _ _ _ _ (0, 0) hI.out.1]; rfl
          have HPI := hide fun (W : World) => parse_num ⟨#[51]⟩ 3 (by decide) (by kernel_rfl) W
          have HF := hide fun (W : World) (h : Env B W) => fmt_any (B := B) 3 ⟨#[51]⟩ (by kernel_rfl) (by decide) (by decide) W h
          go_wp2_with (go_at_call 42; (with_reducible refine (unhide HPI _).mono ?_); rintro e w5 ⟨rfl, hb5⟩)
          have HI5 := hide (hI.out.below hb5)
          have s1 : w5.cell? ⟨SB, 5, none⟩ = some (.string ⟨#[51]⟩) := below_cell hb5 s0
          clear hb5 s0 q3
          have HE5 := hide (HI5.out.2.2.2.2.1.on (Below.refl _ w5).drew)
          have hwa : IntKind.i64.wrap (2 + 3) = 5 := by decide
          have hwb : IntKind.i64.wrap 5 = 5 := by decide
          have hwc : (5 : Int).toNat = 5 := rfl
          go_region_held3 (fun w0 => w0.cell? ⟨SB, 5, none⟩ = some (.string ⟨#[51]⟩)) (first | exact kd s1 | exact below_cell hb6 (kd s1)) ((go_at_call 39; (with_reducible refine (unhide HF _ HE5.out).mono ?_); rintro e w6 ⟨rfl, hb6⟩))
          all_goals clear hwa hwb hwc
          all_goals
            have HI6 := hide (p := PInv B SB PB w4.heap.size w 3 w6) ((HI5.out.below (Below.refl _ w5).drew).below hb6)
            have p0 : w6.cell? ⟨PB, 5, none⟩ = some (.int .i64 0) := by rw [cell_of_row w6 _ _ _ _ (0, 0) HI6.out.2.1]; rfl
            have f0 := frozen_of_block HI6.out.2.1 5
            clear hb6 s1
            go_wp2_with fail
            go_roundw
            case rel => exact ⟨4, by omega, by go_num, hide (PInv.set (o := 5) (v := .int .i64 3) HI6.out rfl HBW.out HSR.out HSP.out HPQ.out)⟩
            case measure => simp [intOf]
        · have q4 : wr.cell? ⟨w4.heap.size, 4, none⟩ = some (.pointer (some ⟨PB, 6, none⟩)) := by rw [cell_of_row wr _ _ _ _ (0, 0) hI.out.2.2.1]; rfl
          have s0 : wr.cell? ⟨SB, 6, none⟩ = some (.string ⟨#[54]⟩) := by rw [cell_of_row wr _ _ _ _ (0, 0) hI.out.1]; rfl
          have HPI := hide fun (W : World) => parse_num ⟨#[54]⟩ 6 (by decide) (by kernel_rfl) W
          have HF := hide fun (W : World) (h : Env B W) => fmt_any (B := B) 6 ⟨#[54]⟩ (by kernel_rfl) (by decide) (by decide) W h
          go_wp2_with (go_at_call 42; (with_reducible refine (unhide HPI _).mono ?_); rintro e w5 ⟨rfl, hb5⟩)
          have HI5 := hide (hI.out.below hb5)
          have s1 : w5.cell? ⟨SB, 6, none⟩ = some (.string ⟨#[54]⟩) := below_cell hb5 s0
          clear hb5 s0 q4
          have HE5 := hide (HI5.out.2.2.2.2.1.on (Below.refl _ w5).drew)
          have hwa : IntKind.i64.wrap (2 + 4) = 6 := by decide
          have hwb : IntKind.i64.wrap 6 = 6 := by decide
          have hwc : (6 : Int).toNat = 6 := rfl
          go_region_held3 (fun w0 => w0.cell? ⟨SB, 6, none⟩ = some (.string ⟨#[54]⟩)) (first | exact kd s1 | exact below_cell hb6 (kd s1)) ((go_at_call 39; (with_reducible refine (unhide HF _ HE5.out).mono ?_); rintro e w6 ⟨rfl, hb6⟩))
          all_goals clear hwa hwb hwc
          all_goals
            have HI6 := hide (p := PInv B SB PB w4.heap.size w 4 w6) ((HI5.out.below (Below.refl _ w5).drew).below hb6)
            have p0 : w6.cell? ⟨PB, 6, none⟩ = some (.int .i64 0) := by rw [cell_of_row w6 _ _ _ _ (0, 0) HI6.out.2.1]; rfl
            have f0 := frozen_of_block HI6.out.2.1 6
            clear hb6 s1
            go_wp2_with fail
            go_roundw
            case rel => exact ⟨5, by omega, by go_num, hide (PInv.set (o := 6) (v := .int .i64 6) HI6.out rfl HBW.out HSR.out HSP.out HPQ.out)⟩
            case measure => simp [intOf]
        · have q5 : wr.cell? ⟨w4.heap.size, 5, none⟩ = some (.pointer (some ⟨PB, 7, none⟩)) := by rw [cell_of_row wr _ _ _ _ (0, 0) hI.out.2.2.1]; rfl
          have s0 : wr.cell? ⟨SB, 7, none⟩ = some (.string ⟨#[45, 50]⟩) := by rw [cell_of_row wr _ _ _ _ (0, 0) hI.out.1]; rfl
          have HPI := hide fun (W : World) => parse_num ⟨#[45, 50]⟩ (-2) (by decide) (by kernel_rfl) W
          have HF := hide fun (W : World) (h : Env B W) => fmt_any (B := B) (-2) ⟨#[45, 50]⟩ (by kernel_rfl) (by decide) (by decide) W h
          go_wp2_with (go_at_call 42; (with_reducible refine (unhide HPI _).mono ?_); rintro e w5 ⟨rfl, hb5⟩)
          have HI5 := hide (hI.out.below hb5)
          have s1 : w5.cell? ⟨SB, 7, none⟩ = some (.string ⟨#[45, 50]⟩) := below_cell hb5 s0
          clear hb5 s0 q5
          have HE5 := hide (HI5.out.2.2.2.2.1.on (Below.refl _ w5).drew)
          have hwa : IntKind.i64.wrap (2 + 5) = 7 := by decide
          have hwb : IntKind.i64.wrap 7 = 7 := by decide
          have hwc : (7 : Int).toNat = 7 := rfl
          go_region_held3 (fun w0 => w0.cell? ⟨SB, 7, none⟩ = some (.string ⟨#[45, 50]⟩)) (first | exact kd s1 | exact below_cell hb6 (kd s1)) ((go_at_call 39; (with_reducible refine (unhide HF _ HE5.out).mono ?_); rintro e w6 ⟨rfl, hb6⟩))
          all_goals clear hwa hwb hwc
          all_goals
            have HI6 := hide (p := PInv B SB PB w4.heap.size w 5 w6) ((HI5.out.below (Below.refl _ w5).drew).below hb6)
            have p0 : w6.cell? ⟨PB, 7, none⟩ = some (.int .i64 0) := by rw [cell_of_row w6 _ _ _ _ (0, 0) HI6.out.2.1]; rfl
            have f0 := frozen_of_block HI6.out.2.1 7
            clear hb6 s1
            go_wp2_with fail
            go_roundw
            case rel => exact ⟨6, by omega, by go_num, hide (PInv.set (o := 7) (v := .int .i64 (-2)) HI6.out rfl HBW.out HSR.out HSP.out HPQ.out)⟩
            case measure => simp [intOf]
        · have q6 : wr.cell? ⟨w4.heap.size, 6, none⟩ = some (.pointer (some ⟨PB, 8, none⟩)) := by rw [cell_of_row wr _ _ _ _ (0, 0) hI.out.2.2.1]; rfl
          have s0 : wr.cell? ⟨SB, 8, none⟩ = some (.string ⟨#[55]⟩) := by rw [cell_of_row wr _ _ _ _ (0, 0) hI.out.1]; rfl
          have HPI := hide fun (W : World) => parse_num ⟨#[55]⟩ 7 (by decide) (by kernel_rfl) W
          have HF := hide fun (W : World) (h : Env B W) => fmt_any (B := B) 7 ⟨#[55]⟩ (by kernel_rfl) (by decide) (by decide) W h
          go_wp2_with (go_at_call 42; (with_reducible refine (unhide HPI _).mono ?_); rintro e w5 ⟨rfl, hb5⟩)
          have HI5 := hide (hI.out.below hb5)
          have s1 : w5.cell? ⟨SB, 8, none⟩ = some (.string ⟨#[55]⟩) := below_cell hb5 s0
          clear hb5 s0 q6
          have HE5 := hide (HI5.out.2.2.2.2.1.on (Below.refl _ w5).drew)
          have hwa : IntKind.i64.wrap (2 + 6) = 8 := by decide
          have hwb : IntKind.i64.wrap 8 = 8 := by decide
          have hwc : (8 : Int).toNat = 8 := rfl
          go_region_held3 (fun w0 => w0.cell? ⟨SB, 8, none⟩ = some (.string ⟨#[55]⟩)) (first | exact kd s1 | exact below_cell hb6 (kd s1)) ((go_at_call 39; (with_reducible refine (unhide HF _ HE5.out).mono ?_); rintro e w6 ⟨rfl, hb6⟩))
          all_goals clear hwa hwb hwc
          all_goals
            have HI6 := hide (p := PInv B SB PB w4.heap.size w 6 w6) ((HI5.out.below (Below.refl _ w5).drew).below hb6)
            have p0 : w6.cell? ⟨PB, 8, none⟩ = some (.int .i64 0) := by rw [cell_of_row w6 _ _ _ _ (0, 0) HI6.out.2.1]; rfl
            have f0 := frozen_of_block HI6.out.2.1 8
            clear hb6 s1
            go_wp2_with fail
            go_roundw
            case rel => exact ⟨7, by omega, by go_num, hide (PInv.set (o := 8) (v := .int .i64 7) HI6.out rfl HBW.out HSR.out HSP.out HPQ.out)⟩
            case measure => simp [intOf]
        · have c0 : wr.cell? ⟨PB, 0, none⟩ = some (.string ⟨#[97]⟩) := by rw [cell_of_row wr _ _ _ _ (0, 0) hI.out.2.1]; rfl
          have c1 : wr.cell? ⟨PB, 1, none⟩ = some (.int .i64 0) := by rw [cell_of_row wr _ _ _ _ (0, 0) hI.out.2.1]; rfl
          have c2 : wr.cell? ⟨PB, 2, none⟩ = some (.int .i64 10) := by rw [cell_of_row wr _ _ _ _ (0, 0) hI.out.2.1]; rfl
          have c3 : wr.cell? ⟨PB, 3, none⟩ = some (.int .i64 3) := by rw [cell_of_row wr _ _ _ _ (0, 0) hI.out.2.1]; rfl
          have c4 : wr.cell? ⟨PB, 4, none⟩ = some (.int .i64 2) := by rw [cell_of_row wr _ _ _ _ (0, 0) hI.out.2.1]; rfl
          have c5 : wr.cell? ⟨PB, 5, none⟩ = some (.int .i64 3) := by rw [cell_of_row wr _ _ _ _ (0, 0) hI.out.2.1]; rfl
          have c6 : wr.cell? ⟨PB, 6, none⟩ = some (.int .i64 6) := by rw [cell_of_row wr _ _ _ _ (0, 0) hI.out.2.1]; rfl
          have c7 : wr.cell? ⟨PB, 7, none⟩ = some (.int .i64 (-2)) := by rw [cell_of_row wr _ _ _ _ (0, 0) hI.out.2.1]; rfl
          have c8 : wr.cell? ⟨PB, 8, none⟩ = some (.int .i64 7) := by rw [cell_of_row wr _ _ _ _ (0, 0) hI.out.2.1]; rfl
          go_wp2_with (go_at_call 35; (with_reducible refine (unhide HM _).mono ?_); rintro e w5 ⟨rfl, hb5⟩; refine Hid.out ?_)
          refine hide ?_
          have HI7 := hide (hI.out.below hb5)
          clear hb5 c0 c1 c2 c3 c4 c5 c6 c7 c8
          have d0 : w5.cell? ⟨PB, 0, none⟩ = some (.string ⟨#[97]⟩) := by rw [cell_of_row w5 _ _ _ _ (0, 0) HI7.out.2.1]; rfl
          have d1 : w5.cell? ⟨PB, 1, none⟩ = some (.int .i64 0) := by rw [cell_of_row w5 _ _ _ _ (0, 0) HI7.out.2.1]; rfl
          have d2 : w5.cell? ⟨PB, 2, none⟩ = some (.int .i64 10) := by rw [cell_of_row w5 _ _ _ _ (0, 0) HI7.out.2.1]; rfl
          have d3 : w5.cell? ⟨PB, 3, none⟩ = some (.int .i64 3) := by rw [cell_of_row w5 _ _ _ _ (0, 0) HI7.out.2.1]; rfl
          have d4 : w5.cell? ⟨PB, 4, none⟩ = some (.int .i64 2) := by rw [cell_of_row w5 _ _ _ _ (0, 0) HI7.out.2.1]; rfl
          have d5 : w5.cell? ⟨PB, 5, none⟩ = some (.int .i64 3) := by rw [cell_of_row w5 _ _ _ _ (0, 0) HI7.out.2.1]; rfl
          have d6 : w5.cell? ⟨PB, 6, none⟩ = some (.int .i64 6) := by rw [cell_of_row w5 _ _ _ _ (0, 0) HI7.out.2.1]; rfl
          have d7 : w5.cell? ⟨PB, 7, none⟩ = some (.int .i64 (-2)) := by rw [cell_of_row w5 _ _ _ _ (0, 0) HI7.out.2.1]; rfl
          have d8 : w5.cell? ⟨PB, 8, none⟩ = some (.int .i64 7) := by rw [cell_of_row w5 _ _ _ _ (0, 0) HI7.out.2.1]; rfl
          have r0 : w5.cell? ⟨w.heap.size, 0, none⟩ = some (.string ⟨#[]⟩) := by rw [cell_of_row w5 _ _ _ _ (0, 0) HI7.out.2.2.2.1]; rfl
          have r1 : w5.cell? ⟨w.heap.size, 1, none⟩ = some (.int .i64 0) := by rw [cell_of_row w5 _ _ _ _ (0, 0) HI7.out.2.2.2.1]; rfl
          have r2 : w5.cell? ⟨w.heap.size, 2, none⟩ = some (.int .i64 0) := by rw [cell_of_row w5 _ _ _ _ (0, 0) HI7.out.2.2.2.1]; rfl
          have r3 : w5.cell? ⟨w.heap.size, 3, none⟩ = some (.int .i64 0) := by rw [cell_of_row w5 _ _ _ _ (0, 0) HI7.out.2.2.2.1]; rfl
          have r4 : w5.cell? ⟨w.heap.size, 4, none⟩ = some (.int .i64 0) := by rw [cell_of_row w5 _ _ _ _ (0, 0) HI7.out.2.2.2.1]; rfl
          have r5 : w5.cell? ⟨w.heap.size, 5, none⟩ = some (.int .i64 0) := by rw [cell_of_row w5 _ _ _ _ (0, 0) HI7.out.2.2.2.1]; rfl
          have r6 : w5.cell? ⟨w.heap.size, 6, none⟩ = some (.int .i64 0) := by rw [cell_of_row w5 _ _ _ _ (0, 0) HI7.out.2.2.2.1]; rfl
          have r7 : w5.cell? ⟨w.heap.size, 7, none⟩ = some (.int .i64 0) := by rw [cell_of_row w5 _ _ _ _ (0, 0) HI7.out.2.2.2.1]; rfl
          have r8 : w5.cell? ⟨w.heap.size, 8, none⟩ = some (.int .i64 0) := by rw [cell_of_row w5 _ _ _ _ (0, 0) HI7.out.2.2.2.1]; rfl
          have f0 := frozen_of_block HI7.out.2.2.2.1 0
          have f1 := frozen_of_block HI7.out.2.2.2.1 1
          have f2 := frozen_of_block HI7.out.2.2.2.1 2
          have f3 := frozen_of_block HI7.out.2.2.2.1 3
          have f4 := frozen_of_block HI7.out.2.2.2.1 4
          have f5 := frozen_of_block HI7.out.2.2.2.1 5
          have f6 := frozen_of_block HI7.out.2.2.2.1 6
          have f7 := frozen_of_block HI7.out.2.2.2.1 7
          have f8 := frozen_of_block HI7.out.2.2.2.1 8
          go_wp2_with fail
          exact bodyPost_ret (v := .tuple #[pkVal, .int .i64 0]) (by simp [results, Tryz.results20, go_sem, r0, r1, r2, r3, r4, r5, r6, r7, r8]) rfl ⟨rfl, below_set9' HI7.out.2.2.2.2.2 (Nat.le_refl _) _ _ _ _ _ _ _ _ _⟩
end Go.Proofs.YtciahchpdmajbaaGreatDoor
