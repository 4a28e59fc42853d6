/- A Go map from keys to slices that the function made itself. -/
import Derived.Test.YtciahchpdmajbaaGreatDoorHeld
import Derived.Maps.Own
import Derived.Maps.OwnSet
import Derived.Maps.Views
import Derived.StringKeys
namespace Go.Proofs.YtciahchpdmajbaaGreatDoor
open Go.RowKit

/-- An element reads as itself. -/
def RV : Value → Option (DataW Value × List MemPlace) := fun v => some (.held v, [])
abbrev noSl : Value := .slice none 0 0
/-- Block b is a map of at most n entries that answers f. -/
def GM (w : World) (b n : Nat) (f : ByteArray → Value) : Prop :=
  ∃ D : DataW Value, w.ownsMap Tryz.prog 9 RV b n D ∧ ∀ k : ByteArray, D.atKey (.string k.data.toList) (.held noSl) = .held (f k)
theorem kstr : Go.Maps.Keyed Tryz.prog 9 := Go.Maps.string_keyed Tryz.underlying9
theorem lit_inj {a b : ByteArray} (h : Lit.string a.data.toList = Lit.string b.data.toList) : a = b := by
  injection h with h
  cases a with | mk a => cases b with | mk b => cases a; cases b; simp at h; simp [h]
theorem GM.made (w : World) : GM (w.alloc (.map #[] 0)) w.heap.size 0 (fun _ => noSl) := ⟨_, World.ownsMap_made w _ _ RV, fun _ => rfl⟩
theorem GM.lt {w : World} {b n : Nat} {f : ByteArray → Value} (h : GM w b n f) : b < w.heap.size := h.choose_spec.1.lt
theorem GM.kept {w w' : World} {b n : Nat} {f : ByteArray → Value} {row : Option Nat} (h : GM w b n f) (hg : w.grownBy w' row) (hne : some b ≠ row) : GM w' b n f := by
  obtain ⟨D, h1, h2⟩ := h
  exact ⟨D, h1.kept hg hne, h2⟩
theorem GM.below {w w' : World} {b n : Nat} {f : ByteArray → Value} (h : GM w b n f) (hb : Below w.heap.size w w') : GM w' b n f :=
  h.kept (row := none) ⟨hb.os, hb.tape, hb.output, hb.size, fun i hi _ => hb.block i hi⟩ (by simp)
theorem GM.mono {w : World} {b n m : Nat} {f : ByteArray → Value} (h : GM w b n f) (hm : n ≤ m) : GM w b m f := by
  obtain ⟨D, h1, h2⟩ := h
  exact ⟨D, h1.mono hm, h2⟩
theorem GM.look {w : World} {b n : Nat} {f : ByteArray → Value} (h : GM w b n f) (k : ByteArray) (hk : k.size ≤ maxLen) : (Instr.lookup 72 (.map (some b)) (.string k) false).run Tryz.prog w = .ok (f k) w := by
  obtain ⟨D, h1, h2⟩ := h
  obtain ⟨v, ps, hrun, hv⟩ := h1.lookup kstr Tryz.underlying72 (z := noSl) (by kernel_rfl) (zd := .held noSl) (zp := []) rfl (Go.WideMaps.keyOf_string_mk Tryz.underlying9 hk)
  rw [h2 k] at hv
  simp only [RV, Option.some.injEq, Prod.mk.injEq, DataW.held.injEq] at hv
  rw [← hv.1]
  exact hrun
/-- f with another answer at k. -/
def upd (f : ByteArray → Value) (k : ByteArray) (v : Value) : ByteArray → Value := fun j => if j = k then v else f j
theorem GM.put {w : World} {b n : Nat} {f : ByteArray → Value} (h : GM w b n f) (hn : n < maxLen) (k : ByteArray) (hk : k.size ≤ maxLen) (v : Value) :
    ∃ w', (Instr.mapUpdate 72 (.map (some b)) (.string k) v).run Tryz.prog w = .ok () w' ∧ GM w' b (n + 1) (upd f k v) ∧ w.grownBy w' (some b) := by
  obtain ⟨D, h1, h2⟩ := h
  have hkey := Go.WideMaps.keyOf_string_mk Tryz.underlying9 hk
  obtain ⟨w', hrun, h3, h4⟩ := h1.update kstr Tryz.underlying72 hn (val := v) hkey (d := .held v) (ps := []) rfl
  refine ⟨w', hrun, ⟨_, h3, fun j => ?_⟩, h4⟩
  unfold upd
  split
  · rename_i hj
    subst hj
    exact Go.Maps.atKey_put_same h1.isMap (kstr.key hkey) _ _
  · rename_i hj
    rw [Go.Maps.atKey_put_other (fun e => hj (lit_inj e))]
    exact h2 j
end Go.Proofs.YtciahchpdmajbaaGreatDoor
