/- Keys: the panes grouped by keys, sorted. -/
import Derived.Test.YtciahchpdmajbaaGreatDoorGrp
namespace Go.Proofs.YtciahchpdmajbaaGreatDoor
open Go.RowKit
attribute [local go_sem ↓] Go.wp_at_zero Go.wp_at_succ

/-- The map holds the panes of the list, grouped. -/
def Held (mb : Nat) (w : World) (t : Tr ByteArray Sl) (ps : List Pn) : Prop :=
  MapIs1 w mb t ∧ In1 w t ∧ Srt scmp t.list ∧ Apart t.list ∧ All2 (Ent (mb + 1) w) t.list (grp ps)
theorem Held.below {mb : Nat} {w w' : World} {t : Tr ByteArray Sl} {ps : List Pn} (h : Held mb w t ps) (hb : Below w.heap.size w w') : Held mb w' t ps :=
  ⟨(hb.block mb (Tr.lt_of_some h.1)).trans h.1, h.2.1.below hb, h.2.2.1, h.2.2.2.1, h.2.2.2.2.imp fun _ _ _ he => he.below hb⟩
theorem Held.many {mb : Nat} {w : World} {t : Tr ByteArray Sl} {ps : List Pn} (h : Held mb w t ps) : t.many ≤ ps.length := by
  have h1 := h.2.2.2.2.length
  have h2 := grp_length ps
  rw [t.many_list] at h1 
  omega
/-- What Get answers is the key's row. -/
theorem Held.get {mb : Nat} {w : World} {t : Tr ByteArray Sl} {ps : List Pn} (h : Held mb w t ps) (k : ByteArray) :
    ∃ A c, (t.getS k).getD ⟨none, 0, 0⟩ = ⟨A, (keyed k ps).length, c⟩ ∧ w.ownsRow (mb + 1) 40 9 (.slice A (keyed k ps).length c) (keyed k ps).length (cellsOf (keyed k ps)) := by
  have hg := grp_getD k ps
  rw [getS_get k t h.2.2.1]
  rcases All2.getA Ent.key ordS k h.2.2.2.2 with ⟨h1, h2⟩ | ⟨⟨A, n, c⟩, g, h1, h2, h3⟩
  · rw [h2] at hg
    rw [h1, ← hg]
    exact ⟨none, 0, rfl, World.ownsRow_nil _ _ _ _⟩
  · rw [h2] at hg
    have hg2 : g = keyed k ps := hg
    subst hg2
    have hn : n = (keyed k ps).length := h3.2.1
    subst hn
    rw [h1]
    exact ⟨A, c, rfl, h3.2.2.2⟩
/-- What Put leaves behind an append to the key's row. -/
theorem Held.put {mb : Nat} {w w1 w2 : World} {t t' : Tr ByteArray Sl} {ps : List Pn} {p : Pn} {A : Option Addr} {c g cap : Nat} (h : Held mb w t ps)
    (hA : (t.getS p.key).getD ⟨none, 0, 0⟩ = ⟨A, (keyed p.key ps).length, c⟩) (hrow : w.ownsRow (mb + 1) 40 9 (.slice A (keyed p.key ps).length c) (keyed p.key ps).length (cellsOf (keyed p.key ps)))
    (hown : w1.ownsRow (mb + 1) 40 9 (.slice (some ⟨g, 0, none⟩) ((keyed p.key ps).length + 1) cap) ((keyed p.key ps).length + 1) (cellsOf (keyed p.key ps) ++ p.cells))
    (hgrow : w.grownBy w1 (Value.slice A (keyed p.key ps).length c).ownBlock) (hat : (Value.slice A (keyed p.key ps).length c).ownBlock = some g ∨ w.heap.size ≤ g)
    (ho : Only mb w1 w2) (hm : MapIs1 w2 mb t') (hi : In1 w2 t') (hx : t'.list = t.put1 p.key ⟨some ⟨g, 0, none⟩, (keyed p.key ps).length + 1, cap⟩) : Held mb w2 t' (ps ++ [p]) := by
  have hs := h.2.2.1
  have hput := put1_ins p.key ⟨some ⟨g, 0, none⟩, (keyed p.key ps).length + 1, cap⟩ t hs
  rw [hput] at hx
  have hgl : mb + 1 ≤ g ∧ g < w1.heap.size := by
    obtain ⟨g', cap', hv, h1, h2⟩ := hown.form (Nat.succ_pos _)
    injection hv with hv
    injection hv with hv
    injection hv with hv
    omega
  have hother : ∀ x ∈ t.list, x.1 ≠ p.key → x.2.a ≠ some ⟨g, 0, none⟩ := by
    intro x hx hne he
    rcases hat with hat | hat
    · have hAg : A = some ⟨g, 0, none⟩ := by
        rcases hrow.2 with ⟨h0, _⟩ | ⟨g', cap', cur, h0, _⟩
        · rw [h0] at hat; simp [Value.ownBlock] at hat
        · injection h0 with h0
          subst h0
          simpa [Value.ownBlock] using hat
      rw [getS_get p.key t hs] at hA
      cases hgA : getA scmp p.key t.list with
      | none =>
        rw [hgA] at hA
        simp only [Option.getD_none] at hA
        injection hA with hA
        rw [hAg] at hA
        cases hA
      | some v =>
        rw [hgA] at hA
        simp only [Option.getD_some] at hA
        have hmem := getA_mem ordS hgA
        have := h.2.2.2.1 x hx _ hmem (by rw [he, hA, hAg])
        exact hne this
    · have hsz : x.2.a ≠ some ⟨g, 0, none⟩ := by
        intro he2
        -- rows lie below the size
        have hall : ∀ {L : List (ByteArray × Sl)} {G : List (ByteArray × List Pn)}, All2 (Ent (mb + 1) w) L G → ∀ x ∈ L, ∃ b, Ent (mb + 1) w x b := by
          intro L
          induction L with
          | nil => intro G _ x hx; cases hx
          | cons a L ih =>
            intro G hG x hx
            cases G with
            | nil => exact hG.elim
            | cons b G =>
              rcases List.mem_cons.1 hx with rfl | hx
              · exact ⟨b, hG.1⟩
              · exact ih hG.2 x hx
        obtain ⟨b, hb⟩ := hall h.2.2.2.2 x hx
        obtain ⟨g', hg', _, hlt⟩ := hb.own
        rw [he2] at hg'
        injection hg' with hg'
        injection hg' with hg'
        omega
      exact hsz he
  have hsame : ∀ x ∈ t.list, x.1 ≠ p.key → ∀ b, Ent (mb + 1) w x b → Ent (mb + 1) w2 x b := by
    intro x hx hne b hb
    refine Ent.only (w := w1) (hb.same fun g' hg' => ?_) (Nat.lt_succ_self _) ho
    obtain ⟨g2, hg2, _, hlt⟩ := hb.own
    rw [hg'] at hg2
    injection hg2 with hg2
    injection hg2 with hg2
    refine hgrow.block g' (by omega) fun e => ?_
    have hne2 := hother x hx hne
    have : (Value.slice A (keyed p.key ps).length c).ownBlock = some g' := e.symm
    have hAg : A = some ⟨g', 0, none⟩ := by
      rcases hrow.2 with ⟨h0, _⟩ | ⟨g', cap', cur, h0, _⟩
      · rw [h0] at this; simp [Value.ownBlock] at this
      · injection h0 with h0
        subst h0
        simpa [Value.ownBlock] using this
    rw [getS_get p.key t hs] at hA
    cases hgA : getA scmp p.key t.list with
    | none =>
      rw [hgA] at hA
      simp only [Option.getD_none] at hA
      injection hA with hA
      rw [hAg] at hA
      cases hA
    | some v =>
      rw [hgA] at hA
      simp only [Option.getD_some] at hA
      exact hne (h.2.2.2.1 x hx _ (getA_mem ordS hgA) (by rw [hg', hA, hAg]))
  refine ⟨hm, hi, ?_, ?_, ?_⟩
  · rw [hx]; exact insA_srt ordS hs
  · rw [hx]
    intro x hx' y hy' he
    rcases mem_insA ordS hs hx' with rfl | ⟨hx1, hx2⟩ <;> rcases mem_insA ordS hs hy' with rfl | ⟨hy1, hy2⟩
    · rfl
    · exact absurd he.symm (hother y hy1 hy2)
    · exact absurd he (hother x hx1 hx2)
    · exact h.2.2.2.1 x hx1 y hy1 he
  · rw [hx, grp_snoc, grpStep, grp_getD]
    have hnew : Ent (mb + 1) w2 (p.key, ⟨some ⟨g, 0, none⟩, (keyed p.key ps).length + 1, cap⟩) (p.key, keyed p.key ps ++ [p]) := by
      refine Ent.only (w := w1) ⟨rfl, by simp, by simp, ?_⟩ (Nat.lt_succ_self _) ho
      rw [cellsOf_append, cellsOf_one, List.length_append]
      exact hown
    -- the entries of other keys are as they were; the key's own one is replaced
    exact all2_insA ordS Ent.key hnew hs h.2.2.2.2 hsame
end Go.Proofs.YtciahchpdmajbaaGreatDoor
