/- The one pane of 'known': its key read off its line. -/
import Derived.Test.YtciahchpdmajbaaGreatDoorKn2
import Derived.ScopeJumps
import Derived.WalkMore
namespace Go.Proofs.YtciahchpdmajbaaGreatDoor
open Go.RowKit
attribute [local go_sem ↓] Go.wp_at_zero Go.wp_at_succ

/-- A scope in which the run jumps back to one label, once. -/
theorem wp_scope_twice {P : Program} {a : Act} {w : World} {Q : Exit → Act → World → Prop} {c rest : Code} (l : Nat) (hf : findLabel c l = some rest)
    (h : c.wp P (Exit.jump l (fun a w => rest.wp P (Exit.jump l (fun _ _ => False) Q) a w) Q) a w) : (Code.scope c).wp P Q a w :=
  wp_scope_jumps l (fun a w => rest.wp P (Exit.jump l (fun _ _ => False) Q) a w) (fun _ _ => 0) hf h fun a w hJ => wp_mono hJ fun e a' w' he => by
    cases e with
    | goto l' => exact he.2.elim
    | _ => exact he

abbrev restOf : ByteArray := ⟨#[32, 108, 97, 116, 101, 32, 48, 32, 49, 48, 32, 50, 32, 51, 32, 54, 32, 45, 50, 32, 55]⟩
def UnqDone (w : World) (e : Ending) (w' : World) : Prop := e = .returned (.tuple #[.string ⟨#[97]⟩, .string restOf, .bool true]) ∧ Below w.heap.size w w'

set_option maxHeartbeats 4000000 in
set_option maxRecDepth 100000 in
theorem unquote_line (w : World) : Calls Tryz.prog 40 #[.string lineOf] w (UnqDone w) := by
  obtain ⟨i0, hi, hz0, hz1, hz2⟩ := info_parts info_u8
  go_enter Tryz.func40, Tryz.ntmps40
  go_wp2
  refine wp_scope_twice 0 rfl ?_
  go_wp2
  have e1 : lineOf.extract 1 24 = ⟨#[97, 34, 32, 108, 97, 116, 101, 32, 48, 32, 49, 48, 32, 50, 32, 51, 32, 54, 32, 45, 50, 32, 55]⟩ := by kernel_rfl
  rw [e1]
  clear e1
  go_step3
  go_wp2_with (at_builtin; refine wpList_append_own _ rfl _ _ 108 rfl w.heap.size 5 i0 (.int .u8 0) 1 1 Tryz.underlying108 hi hz0 hz1 hz2 rfl (by decide) _ _ _ rfl (World.ownsRow_nil _ _ _ _) ⟨w.heap.size, 0, none⟩ 1 1 [_] rfl rfl (cell_one_new _ _ _) (by simp [Value.oneCell']) (by decide) (by decide) (by simp) ?_; intro v' w1 hown' hgrow _; refine Hid.out ?_)
  refine hide ?_
  have hown2 : w1.ownsRow w.heap.size 5 1 v' 1 [.int .u8 97] := hown'
  have HB := hide (p := Below w.heap.size w w1) (((Below.refl _ w).alloc (Nat.le_refl _) _).grown hgrow (by simp) (fun r hr => by cases hr))
  obtain ⟨g2, c2, rfl, _, _⟩ := hown2.form (by omega)
  have HO := hide hown2
  clear hown' hown2 hgrow
  go_wp2
  have e1 : (⟨#[97, 34, 32, 108, 97, 116, 101, 32, 48, 32, 49, 48, 32, 50, 32, 51, 32, 54, 32, 45, 50, 32, 55]⟩ : ByteArray).extract 1 23 = ⟨#[34, 32, 108, 97, 116, 101, 32, 48, 32, 49, 48, 32, 50, 32, 51, 32, 54, 32, 45, 50, 32, 55]⟩ := by kernel_rfl
  rw [e1]
  clear e1
  go_step3
  refine And.intro rfl ?_
  have hcv : ∀ j, (convert 108 9 (.slice (some ⟨g2, 0, none⟩) 1 c2)).run Tryz.prog (w1.drewN j) = .ok (.string ⟨#[97]⟩) (w1.drewN j) := fun j => run_convert_bytes_back (P := Tryz.prog) (w1.drewN j) 108 9 5 ⟨g2, 0, none⟩ c2 [97] Tryz.underlying108 Tryz.underlying5 Tryz.underlying9 (fun j' hj => (own_drewN HO.out j).cells rfl j' _ (by
        have h3 : j' = 0 := by simp at hj; omega
        subst h3; rfl))
  have hcv1 := hcv 1
  have e2 : (⟨#[34, 32, 108, 97, 116, 101, 32, 48, 32, 49, 48, 32, 50, 32, 51, 32, 54, 32, 45, 50, 32, 55]⟩ : ByteArray).extract 1 22 = restOf := by kernel_rfl
  go_wp2
  go_quiet (fail)
  go_wp2_with fail
  change bodyPost _ _ _ Exit.ret _ _
  go_ret3
  exact ⟨rfl, below_drewN HB.out nq⟩
end Go.Proofs.YtciahchpdmajbaaGreatDoor
