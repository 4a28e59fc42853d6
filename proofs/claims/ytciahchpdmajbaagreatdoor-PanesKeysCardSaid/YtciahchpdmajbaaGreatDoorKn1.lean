/- The one pane of 'known': may, quote, names, numbers. -/
import Derived.Test.YtciahchpdmajbaaGreatDoorOf
import Derived.ScopeJumps
import Derived.Laws.BytesString
namespace Go.Proofs.YtciahchpdmajbaaGreatDoor
open Go.RowKit
attribute [local go_sem ↓] Go.wp_at_zero Go.wp_at_succ

/-- The pane of 'known'. -/
def pk : Pn := ⟨⟨#[97]⟩, 0, 10, 3, 2, 3, 6, -2, 7⟩
abbrev pkVal : Value := .agg #[.string ⟨#[97]⟩, .int .i64 0, .int .i64 10, .int .i64 3, .int .i64 2, .int .i64 3, .int .i64 6, .int .i64 (-2), .int .i64 7]
theorem pk_val : pk.val = pkVal := rfl

set_option maxHeartbeats 1000000 in
set_option maxRecDepth 100000 in
theorem may_pk (w : World) : Calls Tryz.prog 35 #[pkVal] w fun e w' => e = .returned (.bool true) ∧ Below w.heap.size w w' := by
  go_enter Tryz.func35, Tryz.ntmps35
  go_wp2
  go_ret
  exact ⟨rfl, (Below.refl _ _).alloc (Nat.le_refl _) _⟩

abbrev namesVal : Value := .agg #[.string ⟨#[]⟩, .string ⟨#[101, 97, 114, 108, 121]⟩, .string ⟨#[111, 110, 116, 105, 109, 101]⟩, .string ⟨#[108, 97, 116, 101]⟩]
set_option maxHeartbeats 1000000 in
set_option maxRecDepth 100000 in
theorem names_any (w : World) : Calls Tryz.prog 37 #[] w fun e w' => e = .returned namesVal ∧ Below w.heap.size w w' := by
  go_enter Tryz.func37, Tryz.ntmps37
  go_wp2
  exact bodyPost_ret (v := namesVal) (by simp [results, Tryz.results37, go_sem]) rfl ⟨rfl, (Below.refl _ _).alloc (Nat.le_refl _) _⟩
abbrev numsVal : Value := .agg #[.int .i64 0, .int .i64 10, .int .i64 2, .int .i64 3, .int .i64 6, .int .i64 (-2), .int .i64 7]
set_option maxHeartbeats 1000000 in
set_option maxRecDepth 100000 in
theorem numbers_pk (w : World) : Calls Tryz.prog 38 #[pkVal] w fun e w' => e = .returned numsVal ∧ Below w.heap.size w w' := by
  go_enter Tryz.func38, Tryz.ntmps38
  go_wp2
  exact bodyPost_ret (v := numsVal) (by simp [results, Tryz.results38, go_sem]) rfl ⟨rfl, ((Below.refl _ _).alloc (Nat.le_refl _) _).alloc (by simp) _⟩
theorem info_u8 : (Tryz.prog.info? 5).map (fun i => (i.zero, i.size, i.bytes)) = some (some (.int .u8 0), 1, 1) := by kernel_rfl
theorem conv_a (w : World) : ∃ (c : Nat) (w1 : World), (convert 9 108 (.string ⟨#[97]⟩)).run Tryz.prog w = .ok (.slice (some ⟨w.heap.size, 0, none⟩) 1 c) w1 ∧ 1 ≤ c ∧ Below w.heap.size w w1 ∧ w1.cell? ⟨w.heap.size, 0, none⟩ = some (.int .u8 97) ∧ w1.heap.size = w.heap.size + 1 := by
  refine ⟨_, _, run_bytes_of_string w 9 108 5 ⟨#[97]⟩ Tryz.underlying9 Tryz.underlying108 Tryz.underlying5, ?_, ((Below.refl _ w).drew).alloc (Nat.le_refl _) _, ?_, ?_⟩
  · exact grownCap_ge _ _ _ _
  · rw [cell_of_row _ w.heap.size _ _ _ _ (heap_alloc_new w.drew _)]
    simp only [bytesRow]
    rw [Array.getElem?_append_left (by simp)]
    simp
  · simp
set_option maxHeartbeats 2000000 in
set_option maxRecDepth 100000 in
theorem quote_a (w : World) : Calls Tryz.prog 36 #[.string ⟨#[97]⟩] w fun e w' => e = .returned (.string ⟨#[34, 97, 34]⟩) ∧ Below w.heap.size w w' := by
  obtain ⟨i0, hi, hz0, hz1, hz2⟩ := info_parts info_u8
  obtain ⟨c0, W, hrun, hc0, hb, hcell, hsz⟩ := conv_a (w.alloc (.cells #[.int .u8 34] 5))
  have hown : W.ownsRow w.heap.size 5 1 (.slice (some ⟨w.heap.size, 0, none⟩) 1 1) 1 [.int .u8 34] :=
    own_keepsTy (p := fun _ => True) (w := w.alloc (.cells #[.int .u8 34] 5)) ⟨rfl, .inr ⟨w.heap.size, 1, #[.int .u8 34], rfl, Nat.le_refl _, heap_alloc_new w _, Nat.le_refl _, by decide, rfl, rfl⟩⟩ (KeepsTy.below hb) trivial
  have hbW : Below w.heap.size w W := ((Below.refl _ w).alloc (Nat.le_refl _) _).trans (hb.mono (by simp))
  rw [World.size_alloc] at hrun hcell hsz
  have HSZ := hide hsz
  have HB := hide hbW
  clear hb hbW hsz
  go_enter Tryz.func36, Tryz.ntmps36
  go_wp2
  go_loopw [3, 5, 10] (fun b c i wr => ∃ k : Nat, k ≤ 1 ∧ i = .int .i64 k ∧ Below w.heap.size w wr ∧ (k = 0 → wr.cell? ⟨w.heap.size + 1, 0, none⟩ = some (.int .u8 97)) ∧ wr.ownsRow w.heap.size 5 1 b (k + 1) ([.int .u8 34] ++ ([.int .u8 97] : List Value).take k)) (fun _ _ i _ => 1 - (intOf i).toNat)
  case atStart => exact ⟨0, by omega, rfl, HB.out, fun _ => hcell, hown⟩
  case round =>
    obtain ⟨k, hk, rfl, hb, hcl, hr⟩ := hrel
    have hk2 : k = 0 ∨ k = 1 := by omega
    rcases hk2 with rfl | rfl
    · obtain ⟨g, c, rfl, _, _⟩ := hr.form (by omega)
      have hcl := hcl rfl
      have ha := hr.alloc (.cells #[.int .u8 97] 5)
      have HR := hide hr
      clear hr hown
      go_wp2_with (at_builtin; refine wpList_append_own _ rfl _ _ 108 rfl w.heap.size 5 i0 (.int .u8 0) 1 1 Tryz.underlying108 hi hz0 hz1 hz2 rfl (by decide) _ _ _ rfl ha ⟨wr.heap.size, 0, none⟩ 1 1 [.int .u8 97] rfl rfl (cell_one_new _ _ _) (by simp [Value.oneCell']) (by unfold maxLen; omega) (by omega) (by have := hb.size; simp; omega) ?_; intro v' w1 hown' hgrow _)
      go_roundw
      case rel =>
        refine ⟨1, by omega, by go_num, ?_, ?_, ?_⟩
        · exact (hb.alloc hb.size _).grown hgrow (by have := hb.size; simp; omega) (fun r hr => (own_block ha hr).1)
        · intro h
          omega
        · simpa using hown'
      case measure => simp [intOf]
    · clear hcl hcell hown hrun
      obtain ⟨g, c, rfl, _, _⟩ := hr.form (by omega)
      have ha := hr.alloc (.cells #[.int .u8 34] 5)
      have HR := hide hr
      clear hr
      go_wp2_with (at_builtin; refine wpList_append_own _ rfl _ _ 108 rfl w.heap.size 5 i0 (.int .u8 0) 1 1 Tryz.underlying108 hi hz0 hz1 hz2 rfl (by decide) _ _ _ rfl ha ⟨wr.heap.size, 0, none⟩ 1 1 [.int .u8 34] rfl rfl (cell_one_new _ _ _) (by simp [Value.oneCell']) (by unfold maxLen; omega) (by omega) (by have := hb.size; simp; omega) ?_; intro v' w1 hown' hgrow _; refine Hid.out ?_)
      refine hide ?_
      obtain ⟨g2, c2, rfl, _, _⟩ := hown'.form (by omega)
      have hcv : (convert 108 9 (.slice (some ⟨g2, 0, none⟩) 3 c2)).run Tryz.prog w1 = .ok (.string ⟨#[34, 97, 34]⟩) w1 := run_convert_bytes_back (P := Tryz.prog) w1 108 9 5 ⟨g2, 0, none⟩ c2 [34, 97, 34] Tryz.underlying108 Tryz.underlying5 Tryz.underlying9 (fun j hj => hown'.cells rfl j _ (by
        have h3 : j = 0 ∨ j = 1 ∨ j = 2 := by simp at hj; omega
        rcases h3 with rfl | rfl | rfl <;> rfl))
      have HB2 := hide (p := Below w.heap.size w w1) ((hb.alloc hb.size _).grown hgrow (by have := hb.size; simp; omega) (fun r hr => (own_block ha hr).1))
      clear hgrow ha hown'
      go_wp2
      go_ret
      exact ⟨rfl, HB2.out⟩
end Go.Proofs.YtciahchpdmajbaaGreatDoor
