/- Get, Put, Of, All of the map of panes by keys. -/
import Derived.Test.YtciahchpdmajbaaGreatDoorPut1
import Derived.Deep.LoopGhost
namespace Go.Proofs.YtciahchpdmajbaaGreatDoor
open Go.RowKit
attribute [local go_sem ↓] Go.wp_at_zero Go.wp_at_succ

/-- What a tree tells of a key: by its own order. -/
def Tr.getS (k : ByteArray) : Tr ByteArray Sl → Option Sl
  | .nil => none
  | .node _ k' v' l r => if scmp k k' < 0 then l.getS k else if 0 < scmp k k' then r.getS k else some v'

/-- What Get answers, and nothing but draws behind it. -/
def Got1 (o : Option Sl) (w : World) (e : Ending) (w' : World) : Prop := e = .returned (.tuple #[(o.getD ⟨none, 0, 0⟩).val, .bool o.isSome]) ∧ ∃ n, w' = w.drewN n

set_option maxHeartbeats 2000000 in
set_option maxRecDepth 100000 in
theorem get1_any (k : ByteArray) (mb : Nat) (t0 : Tr ByteArray Sl) (w : World) (h0 : In1 w t0) (hc : w.cell? ⟨mb, 0, none⟩ = some (.func (.func 29) #[] #[])) (hr : w.cell? ⟨mb, 1, none⟩ = some (.pointer t0.ad)) :
    Calls Tryz.prog 22 #[.pointer (some ⟨mb, 0, none⟩), .string k] w (Got1 (t0.getS k) w) := by
  have HN := hide (none1_ok mb 29 w hc)
  go_enter Tryz.func22, Tryz.ntmps22
  go_wp2_with (go_at_call 43; (with_reducible refine (unhide HN).mono ?_); rintro e w1 ⟨rfl, rfl⟩)
  go_loopg [7, 8] t0.many (fun g p c wr => ∃ (t : Tr ByteArray Sl) (m : Nat) (q : Option Addr), wr = w.drewN m ∧ p = .pointer q ∧ t.ad = q ∧ t.many ≤ g ∧ In1 w t ∧ Hid (t.getS k = t0.getS k))
  case atStart => exact ⟨t0, 0, t0.ad, rfl, rfl, rfl, Nat.le_refl _, h0, rfl⟩
  case round =>
    obtain ⟨t, m, q, rfl, rfl, hq, hg, ht, hk⟩ := hrel
    cases t with
    | nil =>
      obtain rfl : none = q := hq
      have hx : Hid (t0.getS k = none) := by have h := hk.out; simp only [Tr.getS] at h; exact h.symm
      go_wp2_with fail
      go_ret2
      exact ⟨by rw [hx.out]; rfl, m, rfl⟩
    | node b k' v' l r =>
      obtain rfl : some ⟨b, 0, none⟩ = q := hq
      obtain ⟨A', n', c'⟩ := v'
      obtain ⟨c0, c1, c2, c3, c4, c5⟩ := ht.cells
      have hl : In1 w l := ht.2.1
      have hr2 : In1 w r := ht.2.2
      have hg' : l.many + r.many + 1 ≤ gk := hg
      obtain ⟨W, hW⟩ : ∃ W, W = w.drewN m := ⟨_, rfl⟩
      rw [← hW]
      have e0 : W.cell? ⟨b, 0, none⟩ = some (.string k') := by rw [hW]; exact c0
      have e1 : W.cell? ⟨b, 1, none⟩ = some (.slice A' n' c') := by rw [hW]; exact c1
      have e2 : W.cell? ⟨b, 2, none⟩ = some (.pointer l.ad) := by rw [hW]; exact c2
      have e3 : W.cell? ⟨b, 3, none⟩ = some (.pointer r.ad) := by rw [hW]; exact c3
      have em : W.cell? ⟨mb, 0, none⟩ = some (.func (.func 29) #[] #[]) := by rw [hW]; exact hc
      have HW := hide hW
      have HC := hide fun (j : Nat) => cmpS_any k k' (W.drewN j)
      have HL := hide hl
      have HR := hide hr2
      clear hW c0 c1 c2 c3 c4 c5 hl hr2 ht hg
      rcases scmp_cases k k' with hs | hs | hs
      · have d0 : scmp k k' < 0 := by omega
        have hx : Hid (l.getS k = t0.getS k) := by have h := hk.out; rw [Tr.getS, if_pos d0] at h; exact h
        clear hk hs
        go_wp2_with fail
        go_quiet ((go_at_call 29; with_reducible exact still_first (unhide HC _)))
        go_wp2_with fail
        go_roundg l.many
        case measure => omega
        case rel => exact ⟨l, m + nq, l.ad, by rw [HW.out, World.drewN_drewN], rfl, rfl, Nat.le_refl _, HL.out, hx⟩
      · have d0 : ¬ (scmp k k' < 0) := by omega
        have d1 : ¬ (0 < scmp k k') := by omega
        have hx : Hid (t0.getS k = some ⟨A', n', c'⟩) := by have h := hk.out; rw [Tr.getS, if_neg d0, if_neg d1] at h; exact h.symm
        clear hk hs
        go_wp2_with fail
        go_quiet ((go_at_call 29; with_reducible exact still_first (unhide HC _)))
        go_wp2_with fail
        go_ret2
        exact ⟨by rw [hx.out]; rfl, m + nq, by rw [HW.out, World.drewN_drewN]⟩
      · have d0 : ¬ (scmp k k' < 0) := by omega
        have d1 : 0 < scmp k k' := by omega
        have hx : Hid (r.getS k = t0.getS k) := by have h := hk.out; rw [Tr.getS, if_neg d0, if_pos d1] at h; exact h
        clear hk hs
        go_wp2_with fail
        go_quiet ((go_at_call 29; with_reducible exact still_first (unhide HC _)))
        go_wp2_with fail
        go_roundg r.many
        case measure => omega
        case rel => exact ⟨r, m + nq, r.ad, by rw [HW.out, World.drewN_drewN], rfl, rfl, Nat.le_refl _, HR.out, hx⟩

/-- The map's own block. -/
abbrev MapIs1 (w : World) (mb : Nat) (t : Tr ByteArray Sl) : Prop := w.heap[mb]? = some (.cells #[.func (.func 29) #[] #[], .pointer t.ad] 91 (0, 0))
theorem MapIs1.cells {w : World} {mb : Nat} {t : Tr ByteArray Sl} (h : MapIs1 w mb t) : w.cell? ⟨mb, 0, none⟩ = some (.func (.func 29) #[] #[]) ∧ w.cell? ⟨mb, 1, none⟩ = some (.pointer t.ad) := by
  refine ⟨?_, ?_⟩ <;> (rw [cell_of_row w mb _ _ _ (0, 0) h]; rfl)

def PutDone1 (o : Option Sl) (mb : Nat) (xs : List (ByteArray × Sl)) (w : World) (e : Ending) (w' : World) : Prop :=
  e = .returned (.tuple #[(o.getD ⟨none, 0, 0⟩).val, .bool o.isSome, .int .i64 0]) ∧ ∃ t, MapIs1 w' mb t ∧ In1 w' t ∧ t.list = xs ∧ Only mb w w'

set_option maxHeartbeats 2000000 in
set_option maxRecDepth 100000 in
theorem Put1_any (k : ByteArray) (A : Option Addr) (n c mb : Nat) (t0 : Tr ByteArray Sl) (w : World) (h0 : In1 w t0) (hm : MapIs1 w mb t0) (hs : t0.many ≤ 10000) :
    Calls Tryz.prog 23 #[.pointer (some ⟨mb, 0, none⟩), .string k, .slice A n c] w (PutDone1 (t0.getS k) mb (t0.put1 k ⟨A, n, c⟩) w) := by
  obtain ⟨c0, c1⟩ := hm.cells
  have HG := hide (get1_any k mb t0 w h0 c0 c1)
  have HN := hide fun (j : Nat) => none1_ok mb 29 (w.drewN j) c0
  have HP := hide fun (j : Nat) => put1_any k A n c mb t0 (w.drewN j) (h0.drewN j) hs c0
  have HM := hide hm
  obtain ⟨O, hO⟩ : ∃ O, O = t0.getS k := ⟨_, rfl⟩
  rw [← hO] at HG ⊢
  clear hO hm h0
  go_enter Tryz.func23, Tryz.ntmps23
  go_wp2_with fail
  (with_reducible refine (unhide HG).mono ?_)
  rintro e w1 ⟨rfl, j, rfl⟩
  go_wp2_with fail
  (with_reducible refine (unhide HN _).mono ?_)
  rintro e w1 ⟨rfl, rfl⟩
  go_wp2_with fail
  (with_reducible refine (unhide HP _).mono ?_)
  rintro e w1 ⟨t, rfl, hi, hx, hb⟩
  have hm1 : MapIs1 w1 mb t0 := (hb.block mb (Tr.lt_of_some HM.out)).trans HM.out
  have hc1 := hm1.cells.2
  have hf1 := frozen_of_block hm1 1
  have HM1 := hide hm1
  have HX := hide hx
  clear hm1 hx
  go_wp2_with fail
  go_ret3
  have hblk := setCell_block HM1.out 1 (.pointer t.ad)
  exact ⟨rfl, t, hblk, hi.keep fun b cs hcs => Below.heap_setCell _ _ _ _ (fun e => by subst e; have := hcs.symm.trans HM1.out; injection this with this; injection this with _ h2; cases h2), HX.out, only_trans (only_of_below mb (hb.mono (Nat.le_refl _)) |> fun h => ⟨h.os, h.tape, h.output, h.size, h.block⟩) (only_setCell w1 mb 1 _)⟩
end Go.Proofs.YtciahchpdmajbaaGreatDoor
